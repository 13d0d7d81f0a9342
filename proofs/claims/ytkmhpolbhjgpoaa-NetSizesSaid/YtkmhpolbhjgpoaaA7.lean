/-
  'astep' is sound: part 1, the lemmas.
-/
import Derived.Test.YtkmhpolbhjgpoaaA6
namespace Go.Af
open Go

section
variable {P : Program} {T : TT} {sl : List (Nat × Value)} {H : List Blk} {K : Value → List Blk → Prop} {o : Oper}

theorem evK_spec {x : Operand} {K : Value → Prop} (h : evK sl x K) : ∃ v, ev sl x = some v ∧ K v := by
  unfold evK at h
  split at h
  · rename_i v hv; exact ⟨v, hv, h⟩
  · exact h.elim

theorem cellsL_eq (v : Value) : cellsL v = v.cells.toList := by cases v <;> rfl

/-! #### build -/

theorem foldl_setSeg : ∀ (l : List Value) (k off : Nat) (cs : Array Value), ((l.zipIdx k).foldl (fun (cs : Array Value) (x : Value × Nat) => cs.setIfInBounds (off + x.2) x.1) cs).toList = setSeg cs.toList (off + k) l
  | [], k, off, cs => by simp [setSeg]
  | x :: l, k, off, cs => by
    simp only [List.zipIdx_cons, List.foldl_cons, setSeg]
    rw [foldl_setSeg l (k + 1) off]
    simp [Nat.add_assoc]

theorem LRel.setSeg {m : LM} : ∀ {xs ys : List Value} (_ : LRel m xs ys) {zs cs : List Value} (_ : LRel m zs cs) (off : Nat), LRel m (setSeg zs off xs) (setSeg cs off ys)
  | [], ys, h, zs, cs, hz, off => by have := h.inv_nil; subst this; exact hz
  | x :: xs, ys, h, zs, cs, hz, off => by
    obtain ⟨y, ys', rfl, h1, h2⟩ := h.inv_cons
    exact LRel.setSeg h2 (hz.set off h1) (off + 1)

theorem fill_rel {m : LM} {places : Nat → Option (Nat × Nat)} : ∀ {pv pvR : List (Nat × Value)} (_ : pv.map (·.1) = pvR.map (·.1)) (_ : LRel m (pv.map (·.2)) (pvR.map (·.2))) {zs : List Value} {cs : Array Value} (_ : LRel m zs cs.toList) {out : List Value}
    (_ : setParts places zs pv = some out), ∃ cs', Instr.fill places cs pvR = some cs' ∧ LRel m out cs'.toList
  | [], pvR, h1, _, zs, cs, hz, out, h => by
    cases pvR with
    | nil => cases h; exact ⟨cs, rfl, hz⟩
    | cons _ _ => simp at h1
  | (i, v) :: r, pvR, h1, h2, zs, cs, hz, out, h => by
    cases pvR with
    | nil => simp at h1
    | cons p rR =>
      obtain ⟨i', v'⟩ := p
      simp at h1
      obtain ⟨rfl, h1⟩ := h1
      obtain ⟨y, ys, e, hv, hr⟩ := LRel.inv_cons (x := v) (xs := r.map (·.2)) (by simpa using h2)
      simp at e
      obtain ⟨rfl, rfl⟩ := e
      simp only [setParts] at h
      split at h
      · rename_i off size hp
        split at h
        · rename_i hc
          simp only [Bool.and_eq_true] at hc
          obtain ⟨hc1, hc2⟩ := hc
          have hc1 := Nat.eq_of_beq_eq_true hc1
          have hc2 := Nat.le_of_ble_eq_true hc2
          have hcell := hv.cells
          have hlen := hcell.1
          have hz' : LRel m (Af.setSeg zs off (cellsL v)) ((v'.cells.zipIdx.foldl (fun (cs : Array Value) (x : Value × Nat) => cs.setIfInBounds (off + x.2) x.1) cs)).toList := by
            rw [← Array.foldl_toList, Array.toList_zipIdx, foldl_setSeg]
            exact LRel.setSeg hcell hz _
          obtain ⟨cs', g1, g2⟩ := fill_rel h1 hr hz' h
          refine ⟨cs', ?_, g2⟩
          simp only [Instr.fill, hp]
          have hs : v'.cells.size = size := by rw [← hc1, hlen]; simp
          have hcs : cs.size = zs.length := by rw [hz.1]; simp
          rw [if_neg (by rw [hs]; simp; omega)]
          exact g1
        · cases h
      · cases h

theorem evParts_spec {m : LM} {aR : Act} (hs : SlRel m sl aR.tmps) : ∀ {ps : List (Nat × Operand)} {pv : List (Nat × Value)} (_ : evParts sl ps = some pv),
    pv.map (·.1) = (ps.map fun (i, x) => (i, aR.eval x)).map (·.1) ∧ LRel m (pv.map (·.2)) ((ps.map fun (i, x) => (i, aR.eval x)).map (·.2))
  | [], pv, h => by cases h; exact ⟨rfl, .nil m⟩
  | (i, x) :: r, pv, h => by
    simp only [evParts] at h
    split at h
    · rename_i v hv
      split at h
      · rename_i vs hr
        cases h
        obtain ⟨h1, h2⟩ := evParts_spec hs hr
        exact ⟨by simpa using h1, by simpa using LRel.cons (ev_rel hs hv) h2⟩
      · cases h
    · cases h

theorem run_mapM_list {α β : Type} {P : Program} {w : World} {f : α → Sem β} {g : α → β} : ∀ (l : List α) (_ : ∀ x ∈ l, (f x).run P w = .ok (g x) w), (l.mapM f).run P w = .ok (l.map g) w
  | [], _ => by simp
  | x :: l, h => by
    simp only [List.mapM_cons, Sem.run_bind, h x (by simp), Result.andThen_ok, run_mapM_list l (fun y hy => h y (by simp [hy])), Sem.run_pure, List.map_cons]

theorem run_mapM {α β : Type} {P : Program} {w : World} {f : α → Sem β} {g : α → β} (l : Array α) (h : ∀ x ∈ l, (f x).run P w = .ok (g x) w) : (l.mapM f).run P w = .ok (l.map g) w := by
  rw [Array.mapM_eq_mapM_toList]
  have := run_mapM_list (f := f) (g := g) (P := P) (w := w) l.toList (fun x hx => h x (by simpa using hx))
  simp [this]
  rw [← Array.toList_map]

theorem allTyped_spec : ∀ {fs : List (Nat × TypeId)} (_ : allTyped T fs = true) {x : Nat × TypeId} (_ : x ∈ fs), ∃ j, tget T x.2 = some j
  | [], _, x, hx => by simp at hx
  | (o, t) :: r, h, x, hx => by
    simp only [allTyped] at h
    split at h
    · rename_i j hj
      rcases List.mem_cons.1 hx with e | e
      · subst e; exact ⟨j, hj⟩
      · exact allTyped_spec h e
    · cases h

theorem zeroRep_len (n : Nat) (z : List Value) : (zeroRep n z).length = n * z.length := by
  unfold zeroRep
  split <;> simp

theorem flatten_get {s : Nat} {z : List Value} (hz : z.length = s) (hs : 0 < s) : ∀ (n i : Nat), i < n * s → ((List.replicate n z).flatten)[i]? = z[i % s]?
  | 0, i, hi => by simp at hi
  | n + 1, i, hi => by
    rw [List.replicate_succ, List.flatten_cons, List.getElem?_append]
    split
    · rw [Nat.mod_eq_of_lt (by omega)]
    · have h1 : s ≤ i := by omega
      rw [hz, flatten_get hz hs n (i - s) (by rw [Nat.succ_mul] at hi; omega), Nat.mod_eq_sub_mod h1]

theorem zeroRep_get {n s : Nat} {z : List Value} (hz : z.length = s) (hs : 0 < s) {i : Nat} (hi : i < n * s) : (zeroRep n z)[i]? = z[i % s]? := by
  unfold zeroRep
  split
  · rename_i x
    simp at hz; subst hz
    rw [List.getElem?_replicate]
    simp at hi
    simp [hi, Nat.mod_one]
  · exact flatten_get hz hs n i hi

theorem LRel.refl_all {m : LM} {l : List Value} (h : ∀ v ∈ l, VRel m v v) : LRel m l l :=
  ⟨rfl, fun i x y hx hy => by rw [hx] at hy; cases hy; exact h x (List.mem_of_getElem? hx)⟩

theorem zero_self {t : TypeId} {i : TI} (h : TIOk P t i) (m : LM) : VRel m i.zero i.zero := VRel.plain m 6 _ h.plain

/-- The model's way to lay zero cells, and ours. -/
theorem zeroRow_eq {n s : Nat} {z : Array Value} (hz : z.size = s) (hs : 0 < s) : ((Array.range (n * s)).map (fun i => z[i % z.size]!)).toList = zeroRep n z.toList := by
  apply List.ext_getElem?
  intro i
  by_cases hi : i < n * s
  · rw [zeroRep_get (z := z.toList) (by simpa using hz) hs hi]
    have hm : i % s < z.size := by rw [hz]; exact Nat.mod_lt _ hs
    rw [hz]
    simp [hi, hm, getElem!_def]
  · rw [List.getElem?_eq_none (by simp; omega), List.getElem?_eq_none (by rw [zeroRep_len]; simp [hz]; omega)]

theorem LRel.segOf {m : LM} {xs ys : List Value} (h : LRel m xs ys) (a n : Nat) : LRel m ((xs.drop a).take n) ((ys.drop a).take n) := (h.drop a).take n

end
end Go.Af
