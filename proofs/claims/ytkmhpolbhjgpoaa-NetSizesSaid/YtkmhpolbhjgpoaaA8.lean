/-
  'astep' is sound, part 2: append.
-/
import Derived.Test.YtkmhpolbhjgpoaaA7
namespace Go.Af
open Go

/-- Storing a row of cells into a real block, wherever there is room. -/
theorem run_storeRaw {P : Program} : ∀ (xs : List Value) {w : World} {r o i : Nat} {c : Array Value} {e : TypeId} {f : Nat × Nat} (_ : w.heap[r]? = some (.cells c e f)) (_ : ∀ j, ¬ (f.1 ≤ j ∧ j < f.2)) (_ : o + i + xs.length ≤ c.size)
    (_ : xs.all (fun v => v.oneCell') = true),
    ∃ w' c', (storeCells ⟨r, o, none⟩ xs i).run P w = .ok () w' ∧ w'.heap[r]? = some (.cells c' e f) ∧ c'.toList = setSeg c.toList (o + i) xs ∧ w'.heap.size = w.heap.size ∧ (∀ r', r' ≠ r → w'.heap[r']? = w.heap[r']?) ∧ OutEq w w'
  | [], w, r, o, i, c, e, f, hw, _, _, _ => ⟨w, c, by simp [storeCells], hw, rfl, rfl, fun _ _ => rfl, .refl _⟩
  | x :: xs, w, r, o, i, c, e, f, hw, hf, hl, hone => by
    simp only [List.length_cons] at hl
    simp only [List.all_cons, Bool.and_eq_true] at hone
    have hc : w.cell? ⟨r, o + i, none⟩ = some (c[o + i]'(by omega)) := by simp [World.cell?, hw]
    have hfz : w.frozen? ⟨r, o + i, none⟩ = false := by
      obtain ⟨lo, hi⟩ := f
      have := hf (o + i)
      simp only [World.frozen?, hw]; simpa using this
    have h1 := run_store P w ⟨r, o + i, none⟩ x .plain hone.1
    simp only [hc, hfz, Bool.false_eq_true, if_false] at h1
    obtain ⟨w', c', g1, g2, g3, g4, g5, g6⟩ := run_storeRaw xs (w := w.setCell ⟨r, o + i, none⟩ x) (o := o) (i := i + 1) (setCell_heap_eq hw) hf (by simp; omega) hone.2
    refine ⟨w', c', ?_, g2, ?_, ?_, ?_, (show OutEq w (w.setCell _ _) from ⟨rfl, rfl, rfl⟩).trans g6⟩
    · simp only [storeCells, addr_add, Sem.run_bind, h1, Result.andThen_ok]; exact g1
    · rw [g3]; simp only [setSeg, Nat.add_assoc, Array.toList_setIfInBounds]
    · rw [g4, setCell_size]
    · intro r' hr'; rw [g5 r' hr', setCell_heap_ne hr']

theorem setSeg_get : ∀ (xs vs : List Value) (o i : Nat), o + xs.length ≤ vs.length → (setSeg vs o xs)[i]? = if o ≤ i ∧ i < o + xs.length then xs[i - o]? else vs[i]?
  | [], vs, o, i, h => by
    simp only [setSeg, List.length_nil, Nat.add_zero]
    rw [if_neg (by omega)]
  | x :: xs, vs, o, i, h => by
    simp only [List.length_cons] at h
    simp only [setSeg, List.length_cons]
    rw [setSeg_get xs (vs.set o x) (o + 1) i (by simp; omega)]
    by_cases h1 : o + 1 ≤ i ∧ i < o + 1 + xs.length
    · rw [if_pos h1, if_pos (by omega)]
      have : i - o = (i - (o + 1)) + 1 := by omega
      rw [this]; simp
    · rw [if_neg h1]
      by_cases h2 : i = o
      · subst h2
        rw [if_pos (by omega), List.getElem?_set]
        simp; omega
      · rw [if_neg (by omega), List.getElem?_set]
        simp [Ne.symm h2]

section
variable {P : Program} {H : List Blk} {m : LM} {w : World}

/-- What is appended: how many elements, and their cells; in a world in which they are read. -/
theorem appSrc_run {size : Nat} {x xR : Value} {K : Nat → List Value → Prop} (hH : HRel m H w) (hx : VRel m x xR) (h : appSrc H size x K) :
    ∃ (n : Nat) (new : List Value) (newR : Array Value), K n new ∧ (Builtin.lenOf xR).run P w = .ok n w ∧ (∀ d, (Builtin.firstCells size n xR).run P { w with drawn := d } = .ok newR { w with drawn := d }) ∧ LRel m new newR.toList ∧ new.length = n * size := by
  unfold appSrc at h
  split at h
  · cases hx
    exact ⟨0, [], #[], h, by simp [Builtin.lenOf], fun d => by simp [Builtin.firstCells], .nil m, by simp⟩
  · cases hx
    rename_i a
    refine ⟨0, [], #[], h, by simp [Builtin.lenOf], fun d => ?_, .nil m, by simp⟩
    cases a <;> simp [Builtin.firstCells, loadCells, loadCellsFrom]
  · rename_i b o n cp
    split at h
    · rename_i wr z vs hb
      rw [bget_eq] at hb
      obtain ⟨h0, new, hnew, hk⟩ := h
      have hnl : new.length = n * size := by
        rw [← hnew]; simp
        rcases h0 with h0 | h0
        · subst h0; simp
        · omega
      cases hx with
      | slice _ _ r sh tot esz _ _ c' hm hc hl =>
        rcases h0 with h0 | h0
        · subst h0
          refine ⟨0, new, #[], hk, by simp [Builtin.lenOf], fun d => by simp [Builtin.firstCells, loadCells, loadCellsFrom], ?_, hnl⟩
          rw [← hnew]; simp; exact .nil m
        · obtain ⟨xs, g1, g2⟩ := run_loadCells (P := P) hH hm hb o (n * size) h0
          exact ⟨n, new, xs, hk, by simp [Builtin.lenOf], fun d => by simpa [Builtin.firstCells] using g1 d, by rw [← hnew]; exact g2, hnl⟩
      | sliceZero _ _ a =>
        refine ⟨0, new, #[], hk, by simp [Builtin.lenOf], fun d => ?_, ?_, hnl⟩
        · cases a <;> simp [Builtin.firstCells, loadCells, loadCellsFrom]
        · rw [← hnew]; simp; exact .nil m
      | sliceDead _ _ _ _ _ a hd _ => have := hH.dd _ hd; rw [this] at hb; cases hb
    · exact h.elim
  · rename_i s
    split at h
    · obtain ⟨new, hnew, hk⟩ := h
      cases hx
      refine ⟨s.size, new, (s.data.map fun b => Value.int .u8 b.toNat), hk, by simp [Builtin.lenOf], fun d => ?_, ?_, ?_⟩
      · have : s.extract 0 s.size = s := by ext1; simp
        simp [Builtin.firstCells, this]
      · rw [← hnew]
        simp only [Array.toList_map]
        exact LRel.refl_all (fun v hv => by obtain ⟨b, _, rfl⟩ := List.mem_map.1 hv; exact .int _ _)
      · rw [← hnew]; simp
    · exact h.elim
  · exact h.elim

theorem nextcap_le {need c : Nat} (h : c < need) : Builtin.nextslicecap need c ≤ 2 * need + 512 := by
  unfold Builtin.nextslicecap
  have g : ∀ (r c : Nat), c ≤ 2 * need + 512 → Builtin.growBy need r c ≤ 2 * need + 512 := by
    intro r
    induction r with
    | zero => intro c hc; exact hc
    | succ r ih =>
      intro c hc
      unfold Builtin.growBy
      split
      · exact hc
      · exact ih _ (by omega)
  split
  · omega
  · split
    · omega
    · exact g _ _ (by omega)

theorem all_rel_one {xs ys : List Value} (h : LRel m xs ys) (ho : xs.all oneCellV = true) : ys.all (fun v => v.oneCell') = true := by
  rw [List.all_eq_true]
  intro y hy
  obtain ⟨i, hi⟩ := List.getElem?_of_mem hy
  have hl : i < xs.length := by rw [h.1]; exact (List.getElem?_eq_some_iff.1 hi).1
  have := h.2 i xs[i] y (List.getElem?_eq_getElem hl) hi
  rw [this.oneCell]
  exact List.all_eq_true.1 ho _ (List.getElem_mem hl)

/-- What an append leaves. -/
def AppOut (m : LM) (H : List Blk) (w : World) (K : Value → List Blk → Prop) (vR : Value) (w' : World) : Prop :=
  ∃ v H' m', K v H' ∧ VRel m' v vR ∧ HRel m' H' w' ∧ Fr H.length m H w m' H' w'

/-- A new row, behind a count of draws. -/
theorem new_row {size n nR : Nat} {cells : List Value} {cellsR : Array Value} {e : TypeId} {K : Value → List Blk → Prop} {d : Nat} (hH : HRel m H w) (hs : 0 < size) (hn : n ≤ nR) (hsz : cellsR.size = nR * size)
    (hc : ∀ (i : Nat) (v : Value), cells[i]? = some v → ∃ v', cellsR[i]? = some v' ∧ VRel m v v') (hk : newSlice H size cells n K) :
    AppOut m H w K (.slice (some ⟨w.heap.size, 0, none⟩) n nR) { w with heap := w.heap.push (.cells cellsR e), drawn := d } := by
  simp only [newSlice, bsnocK_eq, Nat.zero_add] at hk
  have hl : locBlk (some (.cel w.heap.size 0 cellsR.size size)) = some w.heap.size := rfl
  have h1 := hH.alloc (b := .cells true size cells) (o := .cells cellsR e) hl ?_
  · have f1 := Fr.alloc hH (.cells true size cells) (.cells cellsR e) hl
    refine ⟨_, _, _, hk, ?_, h1.drawn d, f1.trans (Fr.drawn d)⟩
    exact .slice _ _ _ _ _ _ _ _ _ (LM.put_self _ _ _) hn (.inr (by simp [hsz]))
  · refine ⟨cellsR, e, (0, 0), by simp, fun i v hv => ?_, .inr rfl, fun _ => ⟨fun j hj => by omega, rfl, hs, rfl⟩⟩
    obtain ⟨v', g1, g2⟩ := hc i v hv
    exact ⟨v', by simpa using g1, g2.mono (LM.le_put hH.none_len)⟩

theorem HRel.kill (hH : HRel m H w) {b r sh tot esz : Nat} (hm : m b = some (.cel r sh tot esz)) {z : Nat} {vs : List Value} (hb : H[b]? = some (.cells true z vs)) :
    HRel (m.put b .dead) (H.set b .dead) w ∧ Fr H.length m H w (m.put b .dead) (H.set b .dead) w ∧ m.le (m.put b .dead) := by
  have hle : m.le (m.put b .dead) := LM.le_kill (fun l hl => by rw [hm] at hl; cases hl; exact .inr ⟨_, _, _, _, rfl⟩)
  have hbl := hH.dom b _ hm
  refine ⟨⟨fun i l hi => ?_, fun i l b' hi hd hb' => ?_, fun i hi => ?_, fun i j r' b' hi hb' hw hj => ?_⟩, ⟨Nat.le_refl _, fun _ => by simp, fun i hi l hl => ?_, fun i hi hl => ?_, fun i hi b' hb' hr' => ?_, fun r' hr' hw => ⟨rfl, fun ⟨i, b', k1, k2, k3⟩ => ?_⟩, .refl _⟩, hle⟩
  · by_cases e : i = b
    · subst e; simpa using hbl
    · rw [LM.put_ne m _ e] at hi; simpa using hH.dom i l hi
  · by_cases e : i = b
    · subst e; rw [LM.put_self] at hi; cases hi; exact absurd rfl hd
    · rw [LM.put_ne m _ e] at hi
      rw [List.getElem?_set] at hb'
      simp [Ne.symm e] at hb'
      exact (hH.blk i l b' hi hd hb').mono hle
  · by_cases e : i = b
    · subst e; rw [List.getElem?_set]; simp [hbl]
    · rw [LM.put_ne m _ e] at hi
      rw [List.getElem?_set]
      simp [Ne.symm e]
      exact hH.dd i hi
  · by_cases e : i = b
    · subst e; rw [LM.put_self] at hi; cases hi
    · rw [LM.put_ne m _ e] at hi
      rw [List.getElem?_set] at hb'
      simp [Ne.symm e] at hb'
      by_cases e' : j = b
      · subst e'; rw [LM.put_self] at hj; cases hj
      · rw [LM.put_ne m _ e'] at hj
        exact hH.own i j r' b' hi hb' hw hj
  · by_cases e : i = b
    · subst e; rw [hm] at hl; cases hl
      exact .inr ⟨LM.put_self _ _ _, ⟨_, _, _, _, rfl⟩, _, hb, rfl⟩
    · exact .inl (by rw [LM.put_ne m _ e]; exact hl)
  · by_cases e : i = b
    · subst e; rw [hm] at hl; cases hl
    · rw [LM.put_ne m _ e]; exact hl
  · rw [List.getElem?_set] at hb'
    by_cases e : b = i
    · subst e; simp [hbl] at hb'; subst hb'; cases hr'
    · simp [e] at hb'; exact ⟨b', hb', hr'⟩
  · by_cases e : i = b
    · subst e; rw [LM.put_self] at k1; cases k1
    · rw [LM.put_ne m _ e] at k1
      rw [List.getElem?_set] at k2
      simp [Ne.symm e] at k2
      exact hw ⟨i, b', k1, k2, k3⟩

/-- A block that has been killed comes back under a new number, in the same real block: the elements from o on, and some more that have just been stored behind them. -/
theorem in_place {size n o : Nat} {c c' : Array Value} {e : TypeId} {f : Nat × Nat} {cells : List Value} {w' : World} {K : Value → List Blk → Prop} (hH : HRel m H w) {b r sh tot esz cR : Nat} (hm : m b = some (.cel r sh tot esz)) {vs : List Value}
    (hb : H[b]? = some (.cells true size vs)) (hw : w.heap[r]? = some (.cells c e f)) (hw' : w'.heap[r]? = some (.cells c' e f)) (hsz : w'.heap.size = w.heap.size) (hot : ∀ r', r' ≠ r → w'.heap[r']? = w.heap[r']?) (hout : OutEq w w') (hcs : c'.size = c.size)
    (hn : n ≤ cR) (hlim : sh + o + cR * esz ≤ tot)
    (hc : ∀ (i : Nat) (v : Value), cells[i]? = some v → ∃ v', c'[sh + o + i]? = some v' ∧ VRel m v v') (hk : bsetK H b .dead (fun H' => newSlice H' size cells n K)) :
    AppOut m H w K (.slice (some ⟨r, sh + o, none⟩) n cR) w' := by
  simp only [bsetK_eq, newSlice, bsnocK_eq, Nat.zero_add] at hk
  obtain ⟨c0, e0, f0, q1, q2, q3, q4⟩ := hH.cells hm hb
  rw [hw] at q1; cases q1
  obtain ⟨q5, q6, q7, q8⟩ := q4 rfl
  obtain ⟨k1, k2, k3⟩ := hH.kill hm hb
  have hmr : locBlk (m b) = some r := by rw [hm]; rfl
  have hbl := hH.dom b _ hm
  have hlen : (H.set b .dead).length = H.length := by simp
  -- nothing else lies in r
  have alone : ∀ i, locBlk ((m.put b .dead) i) = some r → False := fun i hi => by
    by_cases e : i = b
    · subst e; rw [LM.put_self] at hi; cases hi
    · rw [LM.put_ne m _ e] at hi
      exact e (hH.own b i r _ hmr hb rfl hi).symm
  have k1' : HRel (m.put b .dead) (H.set b .dead) w' := k1.same (fun i r' hi => hot r' (fun e => alone i (e ▸ hi)))
  have hnone := k1'.none_len
  let m2 := (m.put b .dead).put (H.set b .dead).length (.cel r (sh + o) tot esz)
  have hle2 : (m.put b .dead).le m2 := LM.le_put hnone
  have hH2 : HRel m2 (H.set b .dead ++ [.cells true size cells]) w' := by
    refine ⟨fun i l hi => ?_, fun i l b' hi hd hb' => ?_, fun i hi => ?_, fun i j r' b' hi hb' hw hj => ?_⟩
    · by_cases e : i = (H.set b .dead).length
      · subst e; simp
      · simp only [m2, LM.put_ne _ _ e] at hi; have := k1'.dom i l hi; simp at this ⊢; omega
    · by_cases e : i = (H.set b .dead).length
      · subst e
        simp only [m2, LM.put_self] at hi; cases hi
        rw [List.getElem?_append_right (Nat.le_refl _)] at hb'; simp at hb'; subst hb'
        refine ⟨c', _, f, hw', fun i v hv => ?_, .inr q6, fun _ => ⟨q5, q6, q7, by rw [q8, hcs]⟩⟩
        obtain ⟨v', g1, g2⟩ := hc i v hv
        exact ⟨v', g1, g2.mono (k3.trans hle2)⟩
      · simp only [m2, LM.put_ne _ _ e] at hi
        have hl := k1'.dom i _ hi
        rw [List.getElem?_append_left hl] at hb'
        exact (k1'.blk i l b' hi hd hb').mono hle2
    · by_cases e : i = (H.set b .dead).length
      · subst e; simp only [m2, LM.put_self] at hi; cases hi
      · simp only [m2, LM.put_ne _ _ e] at hi
        rw [List.getElem?_append_left (k1'.dom i _ hi)]
        exact k1'.dd i hi
    · by_cases e : i = (H.set b .dead).length
      · subst e
        simp only [m2, LM.put_self, locBlk] at hi; cases hi
        by_cases e' : j = (H.set b .dead).length
        · exact e'.symm
        · simp only [m2, LM.put_ne _ _ e'] at hj; exact (alone j hj).elim
      · simp only [m2, LM.put_ne _ _ e] at hi
        by_cases e' : j = (H.set b .dead).length
        · subst e'; simp only [m2, LM.put_self, locBlk] at hj; cases hj; exact (alone i hi).elim
        · simp only [m2, LM.put_ne _ _ e'] at hj
          obtain ⟨l', h1, _⟩ := locBlk_some hi
          rw [List.getElem?_append_left (k1'.dom i _ h1)] at hb'
          exact k1'.own i j r' b' hi hb' hw hj
  refine ⟨_, _, m2, hk, ?_, hH2, ?_⟩
  · have := VRel.slice (m := m2) (H.set b .dead).length 0 r (sh + o) tot esz n n cR (LM.put_self _ _ _) hn (.inr (by simpa using hlim))
    simpa using this
  · refine ⟨by rw [hsz]; exact Nat.le_refl _, fun _ => by simp, fun i hi l hl => ?_, fun i hi hl => ?_, fun i hi b' hb' hr' => ?_, fun r' hr' hwr => ⟨hot r' (fun e => hwr ⟨b, _, by rw [hmr, e], hb, rfl⟩), fun ⟨i, b', g1, g2, g3⟩ => ?_⟩, hout⟩
    · have hne : i ≠ (H.set b .dead).length := by simp; omega
      simp only [m2, LM.put_ne _ _ hne]
      exact k2.base i hi l hl
    · have hne : i ≠ (H.set b .dead).length := by simp; omega
      simp only [m2, LM.put_ne _ _ hne]
      exact k2.base' i hi hl
    · rw [List.getElem?_append_left (by simpa using hi)] at hb'
      exact k2.rw i hi b' hb' hr'
    · by_cases e : i = (H.set b .dead).length
      · subst e
        simp only [m2, LM.put_self, locBlk] at g1; cases g1
        exact hwr ⟨b, _, hmr, hb, rfl⟩
      · simp only [m2, LM.put_ne _ _ e] at g1
        obtain ⟨l', h1, _⟩ := locBlk_some g1
        rw [List.getElem?_append_left (k1'.dom i _ h1)] at g2
        exact (k2.keep r' hr' hwr).2 ⟨i, b', g1, g2, g3⟩

end
end Go.Af
