/-
  'astep' is sound, part 4: the operations one by one, and the theorem.
-/
import Derived.Test.YtkmhpolbhjgpoaaA9
namespace Go.Af
open Go
set_option linter.unusedSimpArgs false

section
variable {P : Program} {T : TT} {sl : List (Nat × Value)} {H : List Blk} {K : Value → List Blk → Prop} {o : Oper}

theorem run_value {w w' : World} {s : Sem Value} {v : Value} (h : s.run P w = .ok v w') : (do pure (Next.value (← s)) : Sem Next).run P w = .ok (.value v) w' := by simp [h]

theorem hiK_spec {hi : Option Operand} {l : Nat} {K : Nat → Prop} {m : LM} {aR : Act} (hs : SlRel m sl aR.tmps) (h : hiK sl hi l K) :
    ∃ n, K n ∧ ((hi = none ∧ n = l) ∨ ∃ x k, hi = some x ∧ aR.eval x = .int k (n : Int)) := by
  unfold hiK at h
  split at h
  · exact ⟨l, h, .inl ⟨rfl, rfl⟩⟩
  · rename_i x
    split at h
    · rename_i k n hv
      obtain ⟨m', rfl, hk⟩ := h
      have := ev_rel hs hv
      generalize hu : aR.eval x = u at this
      cases this
      exact ⟨m', hk, .inr ⟨x, k, rfl, hu⟩⟩
    · exact h.elim

theorem run_bound {k : IntKind} {n y : Nat} (h : n ≤ y) (code : BoundsCode) (w : World) : (Instr.sliceBound (.int k (n : Int)) y code).run P w = .ok n w := by
  simp [Instr.sliceBound, asIntOf, h]

theorem run_bounds {hi lo : Option Operand} {b : Bool} {len cap h l : Nat} {aR : Act} {w : World} (hh : (hi = none ∧ h = len) ∨ ∃ x k, hi = some x ∧ aR.eval x = .int k (h : Int)) (hl : (lo = none ∧ l = 0) ∨ ∃ x k, lo = some x ∧ aR.eval x = .int k (l : Int)) (h1 : l ≤ h) (h2 : h ≤ cap) :
    (Instr.sliceBounds b len cap (lo.map aR.eval) (hi.map aR.eval) none).run P w = .ok (l, h, cap) w := by
  rcases hh with ⟨rfl, rfl⟩ | ⟨x, k, rfl, e⟩ <;> rcases hl with ⟨rfl, rfl⟩ | ⟨y, j, rfl, e'⟩ <;> simp [Instr.sliceBounds, *, run_bound h1, run_bound h2]

theorem run_bounds3 {hi lo : Option Operand} {mx : Operand} {kk : IntKind} {b : Bool} {len cap h l mm : Nat} {aR : Act} {w : World} (hm : aR.eval mx = .int kk (mm : Int)) (hh : ∃ x k, hi = some x ∧ aR.eval x = .int k (h : Int)) (hl : (lo = none ∧ l = 0) ∨ ∃ x k, lo = some x ∧ aR.eval x = .int k (l : Int)) (h1 : l ≤ h) (h2 : h ≤ mm) (h3 : mm ≤ cap) :
    (Instr.sliceBounds b len cap (lo.map aR.eval) (hi.map aR.eval) (some (aR.eval mx))).run P w = .ok (l, h, mm) w := by
  obtain ⟨x, k, rfl, e⟩ := hh
  rcases hl with ⟨rfl, rfl⟩ | ⟨y, j, rfl, e'⟩ <;> simp [Instr.sliceBounds, *, run_bound h1, run_bound h2, run_bound h3]

theorem s_move {x : Operand} (hop : o.op = .move x ∨ o.op = .assign x) (h : evK sl x (fun v => K v H)) : OpV P o sl H K :=
  fun m aR w hs hh => by
    obtain ⟨v, hv, hk⟩ := evK_spec h
    refine ⟨v, aR.eval x, hk, fun w' _ => ?_, ev_rel hs hv⟩
    rcases hop with e | e <;> simp [execOp, e]

theorem s_pick {c a b : Operand} (hop : o.op = .pick c a b) (h : astep P T (.pick c a b) sl H K) : OpV P o sl H K :=
  fun m aR w hs hh => by
    simp only [astep] at h
    split at h
    · rename_i t hc
      have hcv := ev_rel hs hc
      generalize hu : aR.eval c = u at hcv
      cases hcv
      cases t with
      | true =>
        obtain ⟨v, hv, hk⟩ := evK_spec h
        exact ⟨v, aR.eval a, hk, fun w' _ => by simp [execOp, hop, hu, asBool], ev_rel hs hv⟩
      | false =>
        obtain ⟨v, hv, hk⟩ := evK_spec h
        exact ⟨v, aR.eval b, hk, fun w' _ => by simp [execOp, hop, hu, asBool], ev_rel hs hv⟩
    · exact h.elim

theorem s_alloc (hT : TOk P T) {e : TypeId} (hop : o.op = .alloc e) (h : astep P T (.alloc e) sl H K) : OpA P o sl H K :=
  fun m aR w hs hh => by
    simp only [astep] at h
    split at h
    · rename_i i hi
      have hi := hT.get hi
      simp only [listNF_eq, bsnocK_eq, Nat.zero_add] at h
      refine ⟨1, _, i.zero.cells, e, _, .pointer (some ⟨w.heap.size, 0, none⟩), Nat.one_pos, h, ?_, ?_, ?_⟩
      · simp [execOp, hop, Instr.alloc, hi.run_zero, newVar, newRow]
      · rw [← cellsL_eq]; rw [cellsL_eq]; exact (zero_self hi m).cells |> fun h => by rw [cellsL_eq] at h; exact h
      · exact .ptr _ _ _ _ _ _ (LM.put_self _ _ _)
    · exact h.elim

theorem s_box {e : TypeId} {x : Operand} (hop : o.op = .box e x) (h : astep P T (.box e x) sl H K) : OpA P o sl H K :=
  fun m aR w hs hh => by
    simp only [astep] at h
    obtain ⟨v, hv, hk⟩ := evK_spec h
    simp only [listNF_eq, bsnocK_eq, Nat.zero_add] at hk
    refine ⟨1, _, (aR.eval x).cells, e, _, .pointer (some ⟨w.heap.size, 0, none⟩), Nat.one_pos, hk, ?_, (ev_rel hs hv).cells, .ptr _ _ _ _ _ _ (LM.put_self _ _ _)⟩
    simp [execOp, hop, Instr.box, newVar, newRow]

theorem s_build (hT : TOk P T) {t : TypeId} {ps : Array (Nat × Operand)} (hop : o.op = .build t ps) (h : astep P T (.build t ps) sl H K) : OpV P o sl H K :=
  fun m aR w hs hh => by
    simp only [astep] at h
    split at h
    · rename_i i hi
      have hi := hT.get hi
      split at h
      · rename_i pv hpv
        obtain ⟨e1, e2⟩ := evParts_spec (aR := aR) hs hpv
        have hz0 : LRel m (cellsL i.zero) i.zero.cells.toList := (zero_self hi m).cells
        split at h
        · rename_i fs hk
          have hu := hi.und
          rw [hk] at hu
          obtain ⟨fields, hu, hfs⟩ := hu
          split at h
          · rename_i hat
            split at h
            · rename_i zs hzs
              simp only [listNF_eq] at h
              obtain ⟨cs', g1, g2⟩ := fill_rel e1 e2 hz0 hzs
              refine ⟨_, .agg cs', h, fun w' _ => ?_, .agg' (by simpa using g2)⟩
              have hmap : (fields.mapM (fun f => do pure (f.offset, ← sizeOf f.type)) : Sem (Array (Nat × Nat))).run P w' = .ok (fields.map (fun f => (f.offset, P.cellsOf f.type))) w' := by
                refine run_mapM (g := fun f => (f.offset, P.cellsOf f.type)) fields (fun f hf => ?_)
                obtain ⟨j, hj⟩ := allTyped_spec hat (x := (f.offset, f.type)) (by rw [← hfs]; exact List.mem_map.2 ⟨f, by simpa using hf, rfl⟩)
                have hj' := hT.get hj
                obtain ⟨ji, k1, k2, _⟩ := hj'.infoEx
                simp [hj'.run_size, Program.cellsOf, k1, k2]
              have hpl : (fun k : Nat => (fields.map (fun f => (f.offset, P.cellsOf f.type)))[k]?) = placesS T fs := by
                funext k
                rw [← hfs]
                unfold placesS
                rw [fieldAt?_eq]
                simp only [Array.getElem?_map, List.getElem?_map, Array.getElem?_toList]
                cases hfk : fields[k]? with
                | none => rfl
                | some f =>
                  simp only [Option.map_some]
                  obtain ⟨j, hj⟩ := allTyped_spec hat (x := (f.offset, f.type)) (by rw [← hfs]; exact List.mem_map.2 ⟨f, by simpa using Array.mem_of_getElem? hfk, rfl⟩)
                  have hj' := hT.get hj
                  obtain ⟨ji, k1, k2, _⟩ := hj'.infoEx
                  simp only at hj
                  rw [hj]
                  simp [Program.cellsOf, k1, k2]
              rw [← hpl] at g1
              simp only [execOp, hop]
              refine run_value ?_
              simp only [Instr.build, Sem.run_bind, hi.run_zero, Result.andThen_ok, run_und hu, hmap, Array.toList_map]
              simp only [g1, Sem.run_pure]
            · exact h.elim
          · exact h.elim
        · rename_i n e hk
          have hu := hi.und
          rw [hk] at hu
          simp only [KOk] at hu
          split at h
          · rename_i j hj
            have hj := hT.get hj
            split at h
            · rename_i zs hzs
              simp only [listNF_eq] at h
              obtain ⟨cs', g1, g2⟩ := fill_rel e1 e2 hz0 hzs
              refine ⟨_, .agg cs', h, fun w' _ => ?_, .agg' (by simpa using g2)⟩
              simp only [execOp, hop]
              refine run_value ?_
              simp only [Instr.build, Sem.run_bind, hi.run_zero, Result.andThen_ok, run_und hu, hj.run_size, Array.toList_map]
              simp only [g1, Sem.run_pure]
            · exact h.elim
          · exact h.elim
        · exact h.elim
      · exact h.elim
    · exact h.elim

theorem s_buildSlice (hT : TOk P T) {t : TypeId} {len : Nat} {ps : Array (Nat × Operand)} (hop : o.op = .buildSlice t len ps) (h : astep P T (.buildSlice t len ps) sl H K) : OpA P o sl H K :=
  fun m aR w hs hh => by
    simp only [astep] at h
    split at h
    · rename_i i hi
      have hi := hT.get hi
      split at h
      · rename_i e hk
        have hu := hi.und
        rw [hk] at hu
        simp only [KOk] at hu
        split at h
        · rename_i j hj
          have hj := hT.get hj
          split at h
          · rename_i pv hpv
            obtain ⟨e1, e2⟩ := evParts_spec (aR := aR) hs hpv
            obtain ⟨⟨hs0, hzl, hsm⟩, h⟩ := h
            split at h
            · rename_i zs hzs
              simp only [listNF_eq, newSlice, bsnocK_eq, Nat.zero_add] at h
              have hzr : LRel m (zeroRep len (cellsL j.zero)) ((Array.range (len * j.size)).map (fun k => j.zero.cells[k % j.zero.cells.size]!)).toList := by
                rw [zeroRow_eq (by rw [← hzl, cellsL_eq]; simp) hs0, ← cellsL_eq]
                refine LRel.refl_all (fun v hv => ?_)
                have hz := (zero_self hj m).cells
                rw [← cellsL_eq] at hz
                have hmem : v ∈ cellsL j.zero := by
                  unfold zeroRep at hv
                  split at hv
                  · rename_i x hx; rw [hx]; simpa using (List.mem_replicate.1 hv).2
                  · obtain ⟨l, h1, h2⟩ := List.mem_flatten.1 hv
                    rw [(List.mem_replicate.1 h1).2] at h2; exact h2
                obtain ⟨q, hq⟩ := List.getElem?_of_mem hmem
                exact hz.2 q v v hq hq
              obtain ⟨cs', g1, g2⟩ := fill_rel e1 e2 hzr hzs
              have hlen : cs'.size = len * j.size := by
                have h1 : zs.length = (zeroRep len (cellsL j.zero)).length := by
                  clear g1 g2 hzr h e1 e2
                  generalize zeroRep len (cellsL j.zero) = z at hzs
                  clear hpv
                  induction pv generalizing z with
                  | nil => simp only [setParts, Option.some.injEq] at hzs; rw [hzs]
                  | cons p r ih =>
                    obtain ⟨a, b⟩ := p
                    simp only [setParts] at hzs
                    split at hzs
                    · rw [ih _ hzs, setSeg_length]
                    · cases hzs
                have := g2.1
                rw [h1, zeroRep_len, hzl] at this
                simpa using this.symm
              refine ⟨j.size, zs, cs', e, _, .slice (some ⟨w.heap.size, 0, none⟩) len len, hs0, h, ?_, g2, ?_⟩
              · simp only [execOp, hop]
                have hsm' : ¬ (len * j.size > 2 ^ 24) := by omega
                have g1' : Instr.fill (fun k => some (k * j.size, j.size)) ((Array.range (len * j.size)).map (fun k => j.zero.cells[k % j.zero.cells.size]!)) (ps.map (fun (p : Nat × Operand) => (p.1, aR.eval p.2))).toList = some cs' := by
                  rw [Array.toList_map]; exact g1
                refine run_value ?_
                by_cases h0 : len * j.size = 0
                · have hr0 : Array.range 0 = #[] := rfl
                  rw [h0, hr0] at g1'
                  have g1'' : Instr.fill (fun k => some (k * j.size, j.size)) #[] (ps.map (fun (p : Nat × Operand) => (p.1, aR.eval p.2))).toList = some cs' := by rwa [Array.map_empty] at g1'
                  simp only [Instr.buildSlice, Sem.run_bind, run_und hu, Result.andThen_ok, hj.run_size, hsm', if_false, h0, if_true, Sem.run_pure, hr0, Array.map_empty, g1'']
                  simp [newRow]
                · simp only [Instr.buildSlice, Sem.run_bind, run_und hu, Result.andThen_ok, hj.run_size, hsm', if_false, h0, Sem.run_pure, hj.run_zero]
                  simp only [g1']
                  simp [newRow]
              · exact .slice _ _ _ _ _ _ _ _ _ (LM.put_self _ _ _) (Nat.le_refl _) (.inr (by simp [hlen]))
            · exact h.elim
          · exact h.elim
        · exact h.elim
      · exact h.elim
    · exact h.elim

theorem nc {b : Nat} {m : LM} {w : World} {wr : Bool} {z : Nat} {vs : List Value} (hh : HRel m H w) (hb : bget H b = some (.cells wr z vs)) (hm : m b = some .dead) : False := by
  have := hh.dd _ hm
  rw [bget_eq, this] at hb; cases hb

theorem ptr_inv {b o' : Nat} {m : LM} {w : World} {wr : Bool} {z : Nat} {vs : List Value} {v : Value} (hh : HRel m H w) (hb : bget H b = some (.cells wr z vs)) (h : VRel m (.pointer (some ⟨b, o', none⟩)) v) :
    ∃ r sh tot esz, m b = some (.cel r sh tot esz) ∧ v = .pointer (some ⟨r, sh + o', none⟩) ∧ H[b]? = some (.cells wr z vs) := by
  cases h with
  | ptr _ _ r sh tot esz hm => exact ⟨r, sh, tot, esz, hm, rfl, by rw [← bget_eq]; exact hb⟩
  | ptrDead _ _ a hm => exact (nc hh hb hm).elim

theorem cell_ext {w w' : World} (hx : ExtW w w') {r o : Nat} (hr : r < w.heap.size) : w'.cell? ⟨r, o, none⟩ = w.cell? ⟨r, o, none⟩ := by
  simp only [World.cell?, hx.2 r hr]

theorem loadCells_ext {w w' : World} : ∀ (n : Nat) (a : Addr) (i : Nat) (acc xs : Array Value), (loadCellsFrom a i n acc).run P w = .ok xs w → a.block < w.heap.size → ExtW w w' → a.spot = none → (∀ j, j < n → ∃ v, w.cell? (a.add (i + j)) = some v) →
    (loadCellsFrom a i n acc).run P w' = .ok xs w'
  | 0, a, i, acc, xs, h, _, _, _, _ => by simp [loadCellsFrom] at h ⊢; exact h
  | n + 1, ⟨r, o, s⟩, i, acc, xs, h, hr, hx, hs, hc => by
    simp only at hs
    subst hs
    obtain ⟨v, hv⟩ := hc 0 (by omega)
    simp only [Nat.add_zero, addr_add] at hv
    have hv' : w'.cell? ⟨r, o + i, none⟩ = some v := by rw [cell_ext hx hr]; exact hv
    simp only [loadCellsFrom, addr_add, Sem.run_bind, run_load, hv, Result.andThen_ok] at h
    simp only [loadCellsFrom, addr_add, Sem.run_bind, run_load, hv', Result.andThen_ok]
    exact loadCells_ext n ⟨r, o, none⟩ (i + 1) _ xs h hr hx rfl (fun j hj => by obtain ⟨u, hu⟩ := hc (j + 1) (by omega); exact ⟨u, by rw [show i + 1 + j = i + (j + 1) by omega]; exact hu⟩)

theorem run_loadVar (hT : TOk P T) {t : TypeId} {i : TI} (hi : tget T t = some i) {b o' : Nat} {m : LM} {w : World} {wr : Bool} {z : Nat} {vs : List Value} {r sh tot esz : Nat} (hh : HRel m H w) (hm : m b = some (.cel r sh tot esz)) (hb : H[b]? = some (.cells wr z vs)) {K : Value → Prop}
    (h : match i.kind.agg with
      | true => segK vs o' i.size (fun seg => K (.agg ⟨seg⟩))
      | false => Ld vs o' K) :
    ∃ v vR, K v ∧ (∀ w', ExtW w w' → (loadVar t ⟨r, sh + o', none⟩).run P w' = .ok vR w') ∧ VRel m v vR := by
  have hi' := hT.get hi
  split at h
  · rename_i ha
    obtain ⟨h1, h2⟩ := segK_spec _ _ _ _ h
    have hx : ∃ xs : Array Value, (∀ w', ExtW w w' → (loadCells ⟨r, sh + o', none⟩ i.size).run P w' = .ok xs w') ∧ LRel m ((vs.drop o').take i.size) xs.toList := by
      rcases h2 with h2 | h2
      · exact ⟨#[], fun w' _ => by rw [h2]; simp [loadCells, loadCellsFrom], by rw [h2]; simp; exact .nil m⟩
      · obtain ⟨xs, g1, g2⟩ := run_loadCells (P := P) hh hm hb o' i.size h2
        exact ⟨xs, fun w' hx => by
          have e := loadCells_ext (P := P) i.size ⟨r, sh + o', none⟩ 0 #[] xs (by simpa [loadCells] using g1 w.drawn) (hh.lt (i := b) (by rw [hm]; rfl)) hx rfl (fun j hj => by
            obtain ⟨v, g, _⟩ := hh.cell hm hb (o := o' + j) (List.getElem?_eq_getElem (by omega))
            exact ⟨v, by rw [addr_add, Nat.zero_add, Nat.add_assoc]; exact g⟩)
          simpa [loadCells] using e, g2⟩
    obtain ⟨xs, g1, g2⟩ := hx
    exact ⟨_, .agg xs, h1, fun w' hx => by simp [loadVar, hi'.run_isAgg, ha, hi'.run_size, g1 w' hx], .agg' (by simpa using g2)⟩
  · rename_i ha
    obtain ⟨v, hv, hk⟩ := h
    obtain ⟨v', g1, g2⟩ := hh.cell hm hb hv
    exact ⟨v, v', hk, fun w' hx => by
      have g1' : w'.cell? ⟨r, sh + o', none⟩ = some v' := by rw [← g1]; exact cell_ext hx (hh.lt (i := b) (by rw [hm]; rfl))
      simp [loadVar, hi'.run_isAgg, ha, g1'], g2⟩

theorem s_load (hT : TOk P T) {t : TypeId} {x : Operand} (hop : o.op = .load t x) (h : astep P T (.load t x) sl H K) : OpV P o sl H K :=
  fun m aR w hs hh => by
    simp only [astep] at h
    split at h
    · rename_i i hi
      split at h
      · rename_i b o' hv
        split at h
        · rename_i wr z vs hb
          obtain ⟨r, sh, tot, esz, hm, hu, hb'⟩ := ptr_inv hh hb (ev_rel hs hv)
          obtain ⟨v, vR, h1, h2, h3⟩ := run_loadVar hT hi hh hm hb' (K := fun v => K v H) h
          exact ⟨v, vR, h1, fun w' hx => by simp only [execOp, hop, hu]; exact run_value (by simp [Instr.loadAt, Instr.sureAddr, h2 w' (hx (by rw [hop]; rfl))]), h3⟩
        · exact h.elim
      · exact h.elim
    · exact h.elim

theorem s_store (hT : TOk P T) {t : TypeId} {x y : Operand} (hop : o.op = .store t x y) (h : astep P T (.store t x y) sl H K) : OpS P o sl H K := by
  intro m aR w hs hh
  simp only [astep] at h
  split at h
  · rename_i i hi
    have hi' := hT.get hi
    split at h
    · rename_i b o' v hx hy
      split at h
      · rename_i z vs hb
        obtain ⟨⟨h1, h2, h3⟩, vs', h4, hk⟩ := h
        simp only [bsetK_eq] at hk
        obtain ⟨r, sh, tot, esz, hm, hu, hb'⟩ := ptr_inv hh hb (ev_rel hs hx)
        have hv := ev_rel hs hy
        have hc := hv.cells
        obtain ⟨w', g1, g2, g3⟩ := run_storeCells (P := P) _ _ hh hm hb' o' 0 (by omega) hc h2
        rw [Nat.add_zero, h4] at g2 g3
        have hsz : (aR.eval y).cells.size = i.size := by have := hc.1; rw [h1] at this; simpa using this.symm
        refine ⟨.skip, w', ?_, undef, _, m, hk, VRel.plain m 6 _ rfl, g2, g3⟩
        simp only [execOp, hop, hu]
        simp [Instr.storeAt, Instr.sureAddr, storeVar, hi'.run_size, hsz, g1]
      · exact h.elim
    · exact h.elim
  · exact h.elim

theorem s_nilCheck {x : Operand} (hop : o.op = .nilCheck x) (h : astep P T (.nilCheck x) sl H K) : OpV P o sl H K :=
  fun m aR w hs hh => by
    simp only [astep] at h
    split at h
    · rename_i a hv
      have := ev_rel hs hv
      refine ⟨_, aR.eval x, h, fun w' _ => ?_, this⟩
      simp only [execOp, hop]
      generalize aR.eval x = u at this
      cases this <;> rfl
    · rename_i f a c hv
      have := ev_rel hs hv
      refine ⟨_, aR.eval x, h, fun w' _ => ?_, this⟩
      simp only [execOp, hop]
      generalize aR.eval x = u at this
      obtain ⟨f', xs', ys', rfl, hf, _⟩ := this.inv_func
      cases hf; rfl
    · rename_i f a c hv
      have := ev_rel hs hv
      refine ⟨_, aR.eval x, h, fun w' _ => ?_, this⟩
      simp only [execOp, hop]
      generalize aR.eval x = u at this
      obtain ⟨f', xs', ys', rfl, hf, _⟩ := this.inv_func
      cases hf
      · rfl
      · rfl
    · rename_i t v hv
      have := ev_rel hs hv
      refine ⟨_, aR.eval x, h, fun w' _ => ?_, this⟩
      simp only [execOp, hop]
      generalize aR.eval x = u at this
      cases this; rfl
    · exact h.elim

theorem s_binOp (hT : TOk P T) {op : BinOp} {t yt : TypeId} {x y : Operand} (hop : o.op = .binOp op t x y yt) (h : astep P T (.binOp op t x y yt) sl H K) : OpV P o sl H K :=
  fun m aR w hs hh => by
    simp only [astep] at h
    split at h
    · rename_i a b ha hb
      have ra := ev_rel hs ha
      have rb := ev_rel hs hb
      have other : (op ≠ .eql ∧ op ≠ .neq) → abin op a b (fun v => K v H) → ∃ v vR, K v H ∧ (∀ w', (readOp o.op = true → ExtW w w') → (execOp aR.eval o).run P w' = .ok (.value vR) w') ∧ VRel m v vR := fun hne h => by
        obtain ⟨v, h1, h2, h3⟩ := abin_run (P := P) (t := t) hne ra rb h
        refine ⟨v, v, h1, fun w' _ => ?_, h3⟩
        simp only [execOp, hop]
        refine run_value ?_
        have hg : (eqGuard op t x y (aR.eval x) (aR.eval y)).run P w' = .ok () w' := by cases op <;> first | exact absurd rfl hne.1 | exact absurd rfl hne.2 | simp [eqGuard]
        simp [hg, h2]
      cases op
      case eql =>
        obtain ⟨r, h1, h2, h4⟩ := aeq_run hT hh ra rb h
        exact ⟨_, .bool r, h1, fun w' _ => by simp only [execOp, hop]; exact run_value (by simp [h4, (h2 w').1]), .bool _⟩
      case neq =>
        obtain ⟨r, h1, h2, h4⟩ := aeq_run hT hh ra rb h
        exact ⟨_, .bool (!r), h1, fun w' _ => by simp only [execOp, hop]; exact run_value (by simp [h4, (h2 w').2]), .bool _⟩
      all_goals exact other ⟨by simp, by simp⟩ h
    · exact h.elim

theorem s_unOp {op : UnOp} {t : TypeId} {x : Operand} (hop : o.op = .unOp op t x) (h : astep P T (.unOp op t x) sl H K) : OpV P o sl H K :=
  fun m aR w hs hh => by
    simp only [astep] at h
    split at h
    · rename_i b hv
      have := ev_rel hs hv
      generalize hu : aR.eval x = u at this
      cases this
      exact ⟨_, _, h, fun w' _ => by simp only [execOp, hop, hu]; exact run_value (by simp [Op.unary]), .bool _⟩
    · rename_i k n hv
      have := ev_rel hs hv
      generalize hu : aR.eval x = u at this
      cases this
      exact ⟨_, _, numK_spec h, fun w' _ => by simp only [execOp, hop, hu]; exact run_value (by simp [Op.unary, Op.intArith]), .int _ _⟩
    · exact h.elim

theorem s_convert (hT : TOk P T) {s d : TypeId} {x : Operand} (hop : o.op = .convert s d x) (h : astep P T (.convert s d x) sl H K) : OpV P o sl H K :=
  fun m aR w hs hh => by
    simp only [astep] at h
    split at h
    · rename_i i j v hi hj hv
      have ui := (hT.get hi).und
      have uj := (hT.get hj).und
      have := ev_rel hs hv
      generalize hu : aR.eval x = u at this
      split at h
      · rename_i k1 k2 k3 n e1 e2
        rw [e1] at ui; rw [e2] at uj
        simp only [KOk] at ui uj
        cases this
        refine ⟨_, _, numK_spec h, fun w' _ => ?_, .int _ _⟩
        simp only [execOp, hop, hu]
        exact run_value (by simp [convert, run_und ui, run_und uj, Conv.intToInt])
      · rename_i b e1 e2
        rw [e1] at ui; rw [e2] at uj
        simp only [KOk] at ui uj
        cases this
        refine ⟨_, _, h, fun w' _ => ?_, .string _⟩
        simp only [execOp, hop, hu]
        exact run_value (by simp [convert, run_und ui, run_und uj])
      · exact h.elim
    · exact h.elim

theorem s_makeInterface (hT : TOk P T) {t : TypeId} {x : Operand} (hop : o.op = .makeInterface t x) (h : astep P T (.makeInterface t x) sl H K) : OpV P o sl H K :=
  fun m aR w hs hh => by
    simp only [astep] at h
    split at h
    · rename_i i hi
      have ui := (hT.get hi).und
      split at h
      · exact h.elim
      · rename_i hne
        obtain ⟨v, hv, hk⟩ := evK_spec h
        refine ⟨_, .iface t (aR.eval x), hk, fun w' _ => ?_, .iface _ _ _ (ev_rel hs hv)⟩
        simp only [execOp, hop]
        refine run_value ?_
        obtain ⟨d, hd, _⟩ := ui.desc
        have hd' : ∀ ms, d ≠ .interface ms := by
          intro ms e
          subst e
          cases hk' : i.kind <;> rw [hk'] at ui <;> simp only [KOk] at ui
          case iface => exact hne hk'
          case struct => obtain ⟨f, g, _⟩ := ui; rw [hd] at g; cases g
          case func => obtain ⟨_, _, _, g⟩ := ui; rw [hd] at g; cases g
          all_goals (rw [hd] at ui; cases ui)
        simp only [Instr.makeInterface, Sem.run_bind, run_und hd, Result.andThen_ok]
        cases d <;> first | rfl | exact absurd rfl (hd' _)
    · exact h.elim

theorem s_makeFunc {fn : Fn} {first captured : Array Operand} (hop : o.op = .makeFunc fn first captured) (h : astep P T (.makeFunc fn first captured) sl H K) : OpV P o sl H K :=
  fun m aR w hs hh => by
    simp only [astep] at h
    split at h
    · rename_i a b ha hb
      split at h
      · exact h.elim
      · rename_i hne
        refine ⟨_, .func fn (first.map aR.eval) (captured.map aR.eval), h, fun w' _ => ?_, .func' (.same _ (fun l e => hne l e)) (by simpa using evs_rel hs ha) (by simpa using evs_rel hs hb)⟩
        simp only [execOp, hop]
        exact run_value (by simp [Instr.makeFunc])
    · exact h.elim

end
end Go.Af
