/-
  The heap's laws: what a load, a store, a new block and an append in place do to the relation.
-/
import Derived.Test.YtkmhpolbhjgpoaaA1
namespace Go.Af
open Go

theorem BRel.mono {m m' : LM} (hm : m.le m') {b : Blk} {l : Loc} {w : World} (h : BRel m b l w) : BRel m' b l w := by
  unfold BRel at h ⊢
  split at h
  · obtain ⟨c, e, f, h1, h2, h3, h4⟩ := h
    exact ⟨c, e, f, h1, fun i v hv => let ⟨v', a, b⟩ := h2 i v hv; ⟨v', a, b.mono hm⟩, h3, h4⟩
  · obtain ⟨es', h1, h2, h3⟩ := h
    exact ⟨es', h1, h2, fun i e e' he he' => (h3 i e e' he he').mono hm⟩
  · rename_i o r
    obtain ⟨o', h1, h2⟩ := h
    refine ⟨o', h1, ?_⟩
    cases o <;> try exact h2
    rename_i mp since seen stepped
    cases mp with
    | none => exact h2
    | some b =>
      obtain ⟨r', hb, e⟩ := h2
      exact ⟨r', (hm _ _ hb).obj, e⟩
  · obtain ⟨tmps, d', fn, h1, h2, h3⟩ := h
    exact ⟨tmps, d', fn, h1, h2, h3.mono hm⟩
  · exact h
  · exact h
  · exact h.elim

theorem BRel.same {m : LM} {b : Blk} {l : Loc} {w w' : World} (hs : ∀ r, locBlk (some l) = some r → w'.heap[r]? = w.heap[r]?) (h : BRel m b l w) : BRel m b l w' := by
  cases l with
  | cel r sh tot esz => have := hs r rfl; cases b <;> simp only [BRel, this] at h ⊢ <;> exact h
  | obj r => have := hs r rfl; cases b <;> simp only [BRel, this] at h ⊢ <;> exact h
  | dead => cases b <;> exact h.elim

theorem BRel.lt {m : LM} {b : Blk} {l : Loc} {w : World} {r : Nat} (h : BRel m b l w) (hr : locBlk (some l) = some r) : r < w.heap.size := by
  have key : ∀ o, w.heap[r]? = some o → r < w.heap.size := fun o ho => (Array.getElem?_eq_some_iff.1 ho).1
  unfold BRel at h
  split at h <;> simp only [locBlk, Option.some.injEq] at hr <;> (try subst hr)
  · obtain ⟨c, e, f, h1, _⟩ := h; exact key _ h1
  · obtain ⟨es', h1, _⟩ := h; exact key _ h1
  · obtain ⟨o', h1, _⟩ := h; exact key _ h1
  · obtain ⟨tmps, d', fn, h1, _⟩ := h; exact key _ h1
  · exact key _ h
  · obtain ⟨o, h1, _⟩ := h; exact key _ h1
  · exact h.elim

theorem HRel.get {m : LM} {H : List Blk} {w : World} (h : HRel m H w) {i : Nat} {l : Loc} (hi : m i = some l) (hl : l ≠ .dead) : ∃ b, H[i]? = some b ∧ BRel m b l w := by
  have := h.dom i _ hi
  exact ⟨_, List.getElem?_eq_getElem this, h.blk i l _ hi hl (List.getElem?_eq_getElem this)⟩

theorem locBlk_some {o : Option Loc} {r : Nat} (h : locBlk o = some r) : ∃ l, o = some l ∧ l ≠ .dead ∧ locBlk (some l) = some r := by
  unfold locBlk at h
  split at h
  · rename_i a b c d; exact ⟨.cel a b c d, rfl, by simp, h⟩
  · rename_i a; exact ⟨.obj a, rfl, by simp, h⟩
  · cases h

theorem HRel.lt {m : LM} {H : List Blk} {w : World} (h : HRel m H w) {i r : Nat} (hi : locBlk (m i) = some r) : r < w.heap.size := by
  obtain ⟨l, h1, h2, h3⟩ := locBlk_some hi
  obtain ⟨b, _, hb⟩ := h.get h1 h2; exact hb.lt h3

theorem HRel.cells {m : LM} {H : List Blk} {w : World} (h : HRel m H w) {i r sh tot esz : Nat} (hi : m i = some (.cel r sh tot esz)) {wr : Bool} {z : Nat} {vs : List Value} (hb : H[i]? = some (.cells wr z vs)) :
    ∃ c e f, w.heap[r]? = some (.cells c e f) ∧ (∀ i v, vs[i]? = some v → ∃ v', c[sh + i]? = some v' ∧ VRel m v v') ∧ (esz = 0 ∨ esz = z) ∧ (wr = true → (∀ j, ¬ (f.1 ≤ j ∧ j < f.2)) ∧ esz = z ∧ 0 < z ∧ tot = c.size) := h.blk i _ _ hi (by simp) hb

/-- Nothing that is mapped has turned. -/
theorem HRel.same {m : LM} {H : List Blk} {w w' : World} (h : HRel m H w) (hs : ∀ i r, locBlk (m i) = some r → w'.heap[r]? = w.heap[r]?) : HRel m H w' :=
  ⟨h.dom, fun i l b hi hl hb => (h.blk i l b hi hl hb).same (fun r hr => hs i r (by rw [hi]; exact hr)), h.dd, h.own⟩

theorem HRel.drawn {m : LM} {H : List Blk} {w : World} (h : HRel m H w) (n : Nat) : HRel m H { w with drawn := n } := h.same fun _ _ _ => rfl

theorem Fr.drawn {n : Nat} {m : LM} {H : List Blk} {w : World} (k : Nat) : Fr n m H w m H { w with drawn := k } :=
  ⟨Nat.le_refl _, id, fun _ _ _ h => .inl h, fun _ _ h => h, fun _ _ b h k => ⟨b, h, k⟩, fun _ _ h => ⟨rfl, h⟩, ⟨rfl, rfl, rfl⟩⟩

def LM.put (m : LM) (i : Nat) (l : Loc) : LM := fun j => if j = i then some l else m j
@[simp] theorem LM.put_self (m : LM) (i : Nat) (l : Loc) : m.put i l i = some l := by simp [LM.put]
theorem LM.put_ne (m : LM) {i j : Nat} (l : Loc) (h : j ≠ i) : m.put i l j = m j := by simp [LM.put, h]
theorem LM.le_put {m : LM} {i : Nat} {l : Loc} (h : m i = none) : m.le (m.put i l) := fun j l' hj => by
  by_cases e : j = i
  · subst e; rw [h] at hj; cases hj
  · exact .inl (by rw [LM.put_ne m l e]; exact hj)
theorem LM.le_kill {m : LM} {i : Nat} (h : ∀ l, m i = some l → l = .dead ∨ ∃ r sh tot esz, l = .cel r sh tot esz) : m.le (m.put i .dead) := fun j l' hj => by
  by_cases e : j = i
  · subst e
    rw [LM.put_self]
    rcases h _ hj with h1 | h1
    · exact .inl (by rw [h1])
    · exact .inr ⟨rfl, h1⟩
  · exact .inl (by rw [LM.put_ne m _ e]; exact hj)

theorem HRel.none_len {m : LM} {H : List Blk} {w : World} (h : HRel m H w) : m H.length = none := by
  cases e : m H.length with
  | none => rfl
  | some l => exact absurd (h.dom _ _ e) (Nat.lt_irrefl _)

/-! ### A new block -/

theorem heap_push_lt {w : World} {o : Obj} {r : Nat} (h : r < w.heap.size) : ({ w with heap := w.heap.push o } : World).heap[r]? = w.heap[r]? := by
  show (w.heap.push o)[r]? = w.heap[r]?
  rw [Array.getElem?_push]
  split
  · omega
  · rfl

theorem HRel.alloc {m : LM} {H : List Blk} {w : World} (h : HRel m H w) {b : Blk} {o : Obj} {l : Loc} (hl : locBlk (some l) = some w.heap.size)
    (hb : BRel (m.put H.length l) b l { w with heap := w.heap.push o }) :
    HRel (m.put H.length l) (H ++ [b]) { w with heap := w.heap.push o } := by
  have hn := h.none_len
  refine ⟨fun i l' hi => ?_, fun i l' b' hi hd hb' => ?_, fun i hi => ?_, fun i j r b' hi hb' hw hj => ?_⟩
  · by_cases e : i = H.length
    · subst e; simp
    · rw [LM.put_ne m _ e] at hi; have := h.dom i _ hi; simp; omega
  · by_cases e : i = H.length
    · subst e
      rw [LM.put_self] at hi; cases hi
      rw [List.getElem?_append_right (Nat.le_refl _)] at hb'; simp at hb'; subst hb'
      exact hb
    · rw [LM.put_ne m _ e] at hi
      have hl := h.dom i _ hi
      rw [List.getElem?_append_left hl] at hb'
      exact ((h.blk i l' b' hi hd hb').mono (LM.le_put hn)).same (fun r hr => heap_push_lt (h.lt (i := i) (by rw [hi]; exact hr)))
  · by_cases e : i = H.length
    · subst e; rw [LM.put_self] at hi; cases hi; cases hl
    · rw [LM.put_ne m _ e] at hi
      have := h.dd i hi
      rwa [List.getElem?_append_left (h.dom i _ hi)]
  · by_cases e : i = H.length
    · subst e
      rw [LM.put_self, hl] at hi; cases hi
      by_cases e' : j = H.length
      · exact e'.symm
      · rw [LM.put_ne m _ e'] at hj; exact absurd (h.lt hj) (Nat.lt_irrefl _)
    · rw [LM.put_ne m _ e] at hi
      by_cases e' : j = H.length
      · subst e'; rw [LM.put_self, hl] at hj; cases hj; exact absurd (h.lt hi) (Nat.lt_irrefl _)
      · rw [LM.put_ne m _ e'] at hj
        obtain ⟨l', h1, _⟩ := locBlk_some hi
        rw [List.getElem?_append_left (h.dom i _ h1)] at hb'
        exact h.own i j r b' hi hb' hw hj

theorem Fr.alloc {m : LM} {H : List Blk} {w : World} (h : HRel m H w) (b : Blk) (o : Obj) {l : Loc} (hl : locBlk (some l) = some w.heap.size) :
    Fr H.length m H w (m.put H.length l) (H ++ [b]) { w with heap := w.heap.push o } := by
  refine ⟨by simp, fun _ => by simp, fun i hi l hl => .inl (by rw [LM.put_ne m _ (by omega)]; exact hl), fun i hi hl => by rw [LM.put_ne m _ (by omega)]; exact hl, fun i hi b' hb' hr' => ⟨b', by rwa [List.getElem?_append_left hi] at hb', hr'⟩, fun r hr hw => ⟨heap_push_lt hr, fun ⟨i, b', h1, h2, h3⟩ => ?_⟩, ⟨rfl, rfl, rfl⟩⟩
  by_cases e : i = H.length
  · subst e; rw [LM.put_self, hl] at h1; cases h1; exact absurd hr (Nat.lt_irrefl _)
  · rw [LM.put_ne m _ e] at h1
    obtain ⟨l', k1, _⟩ := locBlk_some h1
    rw [List.getElem?_append_left (h.dom i _ k1)] at h2
    exact hw ⟨i, b', h1, h2, h3⟩

/-! ### Cells -/

theorem HRel.cell {m : LM} {H : List Blk} {w : World} (h : HRel m H w) {i r sh tot esz : Nat} (hi : m i = some (.cel r sh tot esz)) {wr : Bool} {z : Nat} {vs : List Value} (hb : H[i]? = some (.cells wr z vs))
    {o : Nat} {v : Value} (hv : vs[o]? = some v) : ∃ v', w.cell? ⟨r, sh + o, none⟩ = some v' ∧ VRel m v v' := by
  obtain ⟨c, e, f, h1, h2, _, h3⟩ := h.cells hi hb
  obtain ⟨v', h4, h5⟩ := h2 o v hv
  exact ⟨v', by simp [World.cell?, h1, h4], h5⟩

theorem addr_add (r o n : Nat) : (⟨r, o, none⟩ : Addr).add n = ⟨r, o + n, none⟩ := by
  unfold Addr.add; split
  · rename_i h; subst h; rfl
  · rfl

theorem run_loadCellsFrom {P : Program} {m : LM} {H : List Blk} {w : World} (h : HRel m H w) {b r sh tot esz : Nat} (hb : m b = some (.cel r sh tot esz)) {wr : Bool} {z : Nat} {vs : List Value} (hB : H[b]? = some (.cells wr z vs)) (o : Nat) :
    ∀ (n i : Nat) (acc : Array Value), o + i + n ≤ vs.length → ∃ xs : Array Value, (∀ d, (loadCellsFrom ⟨r, sh + o, none⟩ i n acc).run P { w with drawn := d } = .ok (acc ++ xs) { w with drawn := d }) ∧ LRel m ((vs.drop (o + i)).take n) xs.toList := by
  intro n
  induction n with
  | zero => intro i acc _; exact ⟨#[], fun d => by simp [loadCellsFrom], by simpa using LRel.nil m⟩
  | succ n ih =>
    intro i acc hl
    have hlt : o + i < vs.length := by omega
    obtain ⟨v', hc, hv⟩ := h.cell hb hB (o := o + i) (List.getElem?_eq_getElem hlt)
    obtain ⟨xs, h1, h2⟩ := ih (i + 1) (acc.push v') (by omega)
    refine ⟨#[v'] ++ xs, fun d => ?_, ?_⟩
    · have hc' : ({ w with drawn := d } : World).cell? ⟨r, sh + o + i, none⟩ = some v' := by rw [Nat.add_assoc]; exact hc
      simp only [loadCellsFrom, addr_add, Sem.run_bind, run_load, hc', Result.andThen_ok, h1]
      rw [← Array.append_assoc]; simp
    · have e : (vs.drop (o + i)).take (n + 1) = vs[o + i] :: (vs.drop (o + (i + 1))).take n := by
        rw [List.drop_eq_getElem_cons hlt, List.take_succ_cons]; rfl
      rw [e]
      simpa using LRel.cons hv h2

theorem run_loadCells {P : Program} {m : LM} {H : List Blk} {w : World} (h : HRel m H w) {b r sh tot esz : Nat} (hb : m b = some (.cel r sh tot esz)) {wr : Bool} {z : Nat} {vs : List Value} (hB : H[b]? = some (.cells wr z vs)) (o n : Nat) (hn : o + n ≤ vs.length) :
    ∃ xs : Array Value, (∀ d, (loadCells ⟨r, sh + o, none⟩ n).run P { w with drawn := d } = .ok xs { w with drawn := d }) ∧ LRel m ((vs.drop o).take n) xs.toList := by
  obtain ⟨xs, h1, h2⟩ := run_loadCellsFrom (P := P) h hb hB o n 0 #[] (by omega)
  exact ⟨xs, fun d => by simpa [loadCells] using h1 d, by simpa using h2⟩

/-! ### A store -/

theorem setCell_heap_ne {w : World} {a : Addr} {v : Value} {r : Nat} (h : r ≠ a.block) : (w.setCell a v).heap[r]? = w.heap[r]? := by
  show (w.heap.modify a.block _)[r]? = w.heap[r]?
  rw [Array.getElem?_modify]
  simp [Ne.symm h]

theorem setCell_heap_eq {w : World} {r o : Nat} {v : Value} {c : Array Value} {e : TypeId} {f : Nat × Nat} (h : w.heap[r]? = some (.cells c e f)) :
    (w.setCell ⟨r, o, none⟩ v).heap[r]? = some (.cells (c.setIfInBounds o v) e f) := by
  show (w.heap.modify r _)[r]? = _
  rw [Array.getElem?_modify]
  simp [h]

theorem setCell_size {w : World} {a : Addr} {v : Value} : (w.setCell a v).heap.size = w.heap.size := by
  show (w.heap.modify _ _).size = _; simp

theorem HRel.store {m : LM} {H : List Blk} {w : World} (h : HRel m H w) {i r sh tot esz : Nat} (hi : m i = some (.cel r sh tot esz)) {z : Nat} {vs : List Value} (hb : H[i]? = some (.cells true z vs))
    {o : Nat} {v v' : Value} (hv : VRel m v v') (ho : o < vs.length) :
    HRel m (H.set i (.cells true z (vs.set o v))) (w.setCell ⟨r, sh + o, none⟩ v') ∧ Fr H.length m H w m (H.set i (.cells true z (vs.set o v))) (w.setCell ⟨r, sh + o, none⟩ v') := by
  obtain ⟨c, e, f, h1, h2, h3z, h3⟩ := h.cells hi hb
  have hil := h.dom i _ hi
  have hir : locBlk (m i) = some r := by rw [hi]; rfl
  refine ⟨⟨fun j l hj => by simpa using h.dom j l hj, fun j l b' hj hd hb' => ?_, fun j hj => ?dd, fun j k r' b' hj hb' hw hk => ?_⟩, ⟨by rw [setCell_size]; exact Nat.le_refl _, fun _ => by simp, fun _ _ _ h => .inl h, fun _ _ h => h, fun j _ b' hb' hr' => ?_, fun r' hr hw => ⟨setCell_heap_ne (fun e => hw ⟨i, _, by rw [hir, e], hb, rfl⟩), fun ⟨j, b', k1, k2, k3⟩ => ?_⟩, ⟨rfl, rfl, rfl⟩⟩⟩
  case dd =>
    rw [List.getElem?_set]
    have : i ≠ j := fun e => by subst e; rw [hi] at hj; cases hj
    simp only [this, if_false]; exact h.dd j hj
  · rw [List.getElem?_set] at hb'
    by_cases hij : i = j
    · subst hij
      rw [hi] at hj; cases hj
      simp [hil] at hb'; subst hb'
      refine ⟨c.setIfInBounds (sh + o) v', e, f, setCell_heap_eq h1, fun k x hx => ?_, h3z, fun ht => by simpa using h3 ht⟩
      rw [List.getElem?_set] at hx
      by_cases hok : o = k
      · subst hok
        simp [ho] at hx; subst hx
        obtain ⟨y, hy, _⟩ := h2 o vs[o] (List.getElem?_eq_getElem ho)
        have : sh + o < c.size := (Array.getElem?_eq_some_iff.1 hy).1
        exact ⟨v', by rw [Array.getElem?_setIfInBounds]; simp [this], hv⟩
      · simp [hok] at hx
        obtain ⟨y, hy, hr⟩ := h2 k x hx
        exact ⟨y, by rw [Array.getElem?_setIfInBounds]; simp [hok, hy], hr⟩
    · simp [hij] at hb'
      refine (h.blk j l b' hj hd hb').same (fun r' hr' => setCell_heap_ne fun e => ?_)
      have : r' = r := e
      subst this
      exact hij (h.own i j r' _ hir hb rfl (by rw [hj]; exact hr'))
  · rw [List.getElem?_set] at hb'
    by_cases hij : i = j
    · subst hij
      simp [hil] at hb'
      exact h.own i k r' _ hj hb rfl hk
    · simp [hij] at hb'
      exact h.own j k r' b' hj hb' hw hk
  · rw [List.getElem?_set] at hb'
    by_cases hij : i = j
    · subst hij; exact ⟨_, hb, rfl⟩
    · simp [hij] at hb'; exact ⟨b', hb', hr'⟩
  · rw [List.getElem?_set] at k2
    by_cases hij : i = j
    · subst hij; exact hw ⟨i, _, k1, hb, rfl⟩
    · simp [hij] at k2; exact hw ⟨j, b', k1, k2, k3⟩

/-- Several cells in a row, from o on. -/
def setSeg : List Value → Nat → List Value → List Value
  | vs, _, [] => vs
  | vs, o, x :: xs => setSeg (vs.set o x) (o + 1) xs

theorem setSeg_length : ∀ (xs vs : List Value) (o : Nat), (setSeg vs o xs).length = vs.length
  | [], _, _ => rfl
  | x :: xs, vs, o => by rw [setSeg, setSeg_length xs]; simp

theorem not_frozen {m : LM} {H : List Blk} {w : World} (h : HRel m H w) {i r sh tot esz : Nat} (hi : m i = some (.cel r sh tot esz)) {z : Nat} {vs : List Value} (hb : H[i]? = some (.cells true z vs)) (o : Nat) : w.frozen? ⟨r, o, none⟩ = false := by
  obtain ⟨c, e, f, h1, h2, _, h3⟩ := h.cells hi hb
  have := (h3 rfl).1 o
  obtain ⟨lo, hi'⟩ := f
  simp only [World.frozen?, h1]
  simpa using this

/-- A value of one cell that is stored: no aggregate, no tuple. -/
def oneCellV : Value → Bool
  | .agg _ | .tuple _ => false
  | _ => true
theorem VRel.oneCell {m : LM} {v v' : Value} (h : VRel m v v') : v'.oneCell' = oneCellV v := by cases h <;> rfl

theorem run_storeCells {P : Program} : ∀ (xs xs' : List Value) {m : LM} {H : List Blk} {w : World} (_ : HRel m H w) {b r sh tot esz : Nat} (_ : m b = some (.cel r sh tot esz)) {z : Nat} {vs : List Value} (_ : H[b]? = some (.cells true z vs)) (o i : Nat)
    (_ : o + i + xs.length ≤ vs.length) (_ : LRel m xs xs') (_ : xs.all oneCellV = true),
    ∃ w', (storeCells ⟨r, sh + o, none⟩ xs' i).run P w = .ok () w' ∧ HRel m (H.set b (.cells true z (setSeg vs (o + i) xs))) w' ∧ Fr H.length m H w m (H.set b (.cells true z (setSeg vs (o + i) xs))) w' := by
  intro xs
  induction xs with
  | nil =>
    intro xs' m H w h b r sh tot esz hb z vs hB o i hl hx hone
    have := hx.inv_nil; subst this
    have e : H.set b (.cells true z (setSeg vs (o + i) [])) = H := by
      simp only [setSeg]
      obtain ⟨hlt, he⟩ := List.getElem?_eq_some_iff.1 hB
      rw [← he, List.set_getElem_self]
    rw [e]
    exact ⟨w, by simp [storeCells], h, .refl _ _ _ _⟩
  | cons x xs ih =>
    intro xs' m H w h b r sh tot esz hb z vs hB o i hl hx hone
    obtain ⟨y, ys, rfl, hv, hs⟩ := hx.inv_cons
    simp only [List.length_cons] at hl
    simp only [List.all_cons, Bool.and_eq_true] at hone
    obtain ⟨s1, s2⟩ := h.store hb hB (o := o + i) hv (by omega)
    have hB' : (H.set b (.cells true z (vs.set (o + i) x)))[b]? = some (.cells true z (vs.set (o + i) x)) := by
      rw [List.getElem?_set]; simp [h.dom b _ hb]
    obtain ⟨w', r1, r2, r3⟩ := ih ys s1 hb hB' o (i + 1) (by simp; omega) hs hone.2
    have eo : o + (i + 1) = o + i + 1 := by omega
    rw [List.set_set, eo] at r2 r3
    refine ⟨w', ?_, by simpa [setSeg] using r2, ?_⟩
    · have hc : ∃ z' : Value, w.cell? ⟨r, sh + o + i, none⟩ = some z' := by
        have ho : o + i < vs.length := by omega
        obtain ⟨z', hz, _⟩ := h.cell hb hB (o := o + i) (List.getElem?_eq_getElem ho)
        exact ⟨z', by rw [Nat.add_assoc]; exact hz⟩
      obtain ⟨z', hz⟩ := hc
      have hfz : w.frozen? ⟨r, sh + o + i, none⟩ = false := not_frozen h hb hB _
      have h1 := run_store P w ⟨r, sh + o + i, none⟩ y .plain (by rw [hv.oneCell]; exact hone.1)
      simp only [hz, hfz, Bool.false_eq_true, if_false] at h1
      simp only [storeCells, addr_add, Sem.run_bind, h1, Result.andThen_ok]
      rw [Nat.add_assoc]
      exact r1
    · have := s2.trans (Fr.weaken (n' := H.length) (by simp) (Nat.le_refl _) r3)
      simpa [setSeg] using this

end Go.Af
