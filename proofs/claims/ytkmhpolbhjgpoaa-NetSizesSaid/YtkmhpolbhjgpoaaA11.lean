/-
  'astep' is sound, part 5.
-/
import Derived.Test.YtkmhpolbhjgpoaaA10
namespace Go.Af
open Go
set_option linter.unusedSimpArgs false

section
variable {P : Program} {T : TT} {sl : List (Nat × Value)} {H : List Blk} {K : Value → List Blk → Prop} {o : Oper}

theorem s_makeSlice (hT : TOk P T) {t : TypeId} {l c : Operand} (hop : o.op = .makeSlice t l c) (h : astep P T (.makeSlice t l c) sl H K) : OpA P o sl H K :=
  fun m aR w hs hh => by
    simp only [astep] at h
    split at h
    · rename_i i hi
      have hi := hT.get hi
      split at h
      · rename_i e hk
        have hu := hi.und
        rw [hk] at hu
        simp only [KOk] at hu
        split at h
        · rename_i j hj
          have hj := hT.get hj
          split at h
          · rename_i k1 li k2 ci hl hc
            obtain ⟨⟨hs0, hzl⟩, n, c', ⟨rfl, rfl⟩, ⟨hnc, hbd⟩, vs, hvs, hk⟩ := h
            simp only [bsnocK_eq, Nat.zero_add] at hk
            have el := ev_rel hs hl
            have ec := ev_rel hs hc
            generalize hul : aR.eval l = ul at el
            generalize huc : aR.eval c = uc at ec
            cases el; cases ec
            obtain ⟨ji, hji, hsz, hby, hze⟩ := hj.infoEx
            have hb1 : c' * j.bytes ≤ 70368744177664 := Nat.le_trans (Nat.mul_le_mul_left _ (Nat.le_succ _)) hbd
            have hb2 : c' ≤ 70368744177664 := by rw [Nat.mul_succ] at hbd; omega
            have w1 : IntKind.i64.wrap (n : Int) = n := wrap_i64 ⟨by omega, by omega⟩
            have w2 : IntKind.i64.wrap (c' : Int) = c' := wrap_i64 ⟨by omega, by omega⟩
            have hcells : LRel m vs ((Array.range (c' * j.size)).map (fun k => j.zero.cells[k % j.zero.cells.size]!)).toList := by
              rw [zeroRow_eq (by rw [← hzl, cellsL_eq]; simp) hs0, ← cellsL_eq, hvs]
              refine LRel.refl_all (fun v hv => ?_)
              have hz := (zero_self hj m).cells
              rw [← cellsL_eq] at hz
              have hmem : v ∈ cellsL j.zero := by
                rw [← hvs] at hv
                unfold zeroRep at hv
                split at hv
                · rename_i x hx; rw [hx]; simpa using (List.mem_replicate.1 hv).2
                · obtain ⟨l, h1, h2⟩ := List.mem_flatten.1 hv
                  rw [(List.mem_replicate.1 h1).2] at h2; exact h2
              obtain ⟨q, hq⟩ := List.getElem?_of_mem hmem
              exact hz.2 q v v hq hq
            refine ⟨j.size, vs, _, e, _, .slice (some ⟨w.heap.size, 0, none⟩) n c', hs0, hk, ?_, hcells, .slice _ _ _ _ _ _ _ _ _ (LM.put_self _ _ _) (Nat.le_refl _) (.inr (by simp))⟩
            simp only [execOp, hop, hul, huc]
            refine run_value ?_
            have hbi : ¬ ((ji.bytes : Int) * (c' : Int) > 2 ^ 48) := by
              rw [hby]
              have h1 := Int.ofNat_le.2 hb1
              have h2 : ((c' * j.bytes : Nat) : Int) = (j.bytes : Int) * (c' : Int) := by rw [Int.natCast_mul, Int.mul_comm]
              rw [h2] at h1
              omega
            have hcnd : (decide ((c' : Int) < 0) || decide ((ji.bytes : Int) * (c' : Int) > 2 ^ 48) || decide ((n : Int) < 0) || decide ((n : Int) > (c' : Int))) = false := by
              simp only [Bool.or_eq_false_iff, decide_eq_false_iff_not]
              exact ⟨⟨⟨by omega, hbi⟩, by omega⟩, by omega⟩
            simp only [Instr.makeSlice, Sem.run_bind, run_und hu, Result.andThen_ok, asInt, asIntOf, Sem.run_pure, run_typeInfo' hji, w1, w2, hcnd, Bool.false_eq_true, if_false, run_askRoom, Int.toNat_natCast, hj.run_size]
            by_cases h0 : c' * j.size = 0
            · have hr0 : Array.range 0 = #[] := rfl
              simp only [h0, if_true, Sem.run_pure, Result.andThen_ok, hr0, Array.map_empty, newRow, Sem.run_bind, run_newObj]
            · simp only [h0, if_false, Sem.run_bind, hj.run_zero, Sem.run_pure, Result.andThen_ok, newRow, run_newObj]
          · exact h.elim
        · exact h.elim
      · exact h.elim
    · exact h.elim

theorem s_slice (hT : TOk P T) {t : TypeId} {x : Operand} {lo hi mx : Option Operand} (hop : o.op = .slice t x lo hi mx) (h : astep P T (.slice t x lo hi mx) sl H K) : OpV P o sl H K :=
  fun m aR w hs hh => by
    simp only [astep] at h
    split at h
    · rename_i i hti
      have hti := hT.get hti
      split at h
      · rename_i e hk
        have hu := hti.und
        rw [hk] at hu
        simp only [KOk] at hu
        split at h
        · rename_i j hj
          have hj := hT.get hj
          have go : ∀ {a : Option Addr} {len cap l h' mm : Nat}, aR.eval x = .slice a len cap → (∀ w, (Instr.sliceBounds true len cap (lo.map aR.eval) (hi.map aR.eval) (mx.map aR.eval)).run P w = .ok (l, h', mm) w) →
              ∀ w', (readOp o.op = true → ExtW w w') → (execOp aR.eval o).run P w' = .ok (.value (.slice (if mm = l then a else a.map (·.add (l * j.size))) (h' - l) (mm - l))) w' := fun hx hb w' _ => by
            simp only [execOp, hop, hx]
            refine run_value ?_
            simp only [Instr.sliceAt, Instr.slice, Sem.run_bind, run_und hu, Result.andThen_ok, hb, hj.run_size, Sem.run_pure]
          split at h
          · rename_i hv
            have hx := ev_rel hs hv
            generalize hxu : aR.eval x = u at hx
            cases hx
            split at h
            · obtain ⟨h', h1, h2⟩ := hiK_spec (aR := aR) hs h
              obtain ⟨l, ⟨rfl, rfl, h3⟩, h4⟩ := hiK_spec (aR := aR) hs h1
              refine ⟨_, _, h3, go hxu (fun w => run_bounds (w := w) (b := true) h2 h4 (Nat.le_refl _) (Nat.le_refl _)), ?_⟩
              simpa using VRel.nilslice
            · rename_i mo
              obtain ⟨mm, h1, h2⟩ := hiK_spec (aR := aR) hs h
              obtain ⟨h', h3, h4⟩ := hiK_spec (aR := aR) hs h1
              obtain ⟨l, ⟨rfl, rfl, rfl, hsome, h5⟩, h6⟩ := hiK_spec (aR := aR) hs h3
              rcases h2 with ⟨h2, _⟩ | ⟨y, k, h2, h7⟩
              · cases h2
              · cases h2
                rcases h4 with ⟨h4, _⟩ | ⟨y', k', h4, h8⟩
                · rw [h4] at hsome; cases hsome
                · refine ⟨_, _, h5, go hxu (fun w => run_bounds3 (w := w) (b := true) h7 ⟨y', k', h4, h8⟩ h6 (Nat.le_refl _) (Nat.le_refl _) (Nat.le_refl _)), ?_⟩
                  simpa using VRel.nilslice
          · rename_i b o' n c hv
            have hx := ev_rel hs hv
            generalize hxu : aR.eval x = u at hx
            split at h
            · split at h
              · rename_i wr z vs hb
                obtain ⟨rfl, h⟩ := h
                obtain ⟨h', h1, h2⟩ := hiK_spec (aR := aR) hs h
                obtain ⟨l, ⟨⟨hlh, hhc⟩, h3⟩, h4⟩ := hiK_spec (aR := aR) hs h1
                cases hx with
                | slice _ _ r sh tot esz _ _ c' hm hc hl =>
                  refine ⟨_, _, h3, go hxu (fun w => run_bounds (w := w) (b := true) h2 h4 hlh (by omega)), ?_⟩
                  by_cases he : c' = l
                  · subst he
                    have e1 : h' - c' = 0 := by omega
                    have e2 : c - c' = 0 := by omega
                    simp only [if_true, e1, e2, Nat.sub_self]
                    exact .sliceZero _ _ _
                  · simp only [he, if_false, Option.map_some, addr_add]
                    rw [Nat.add_assoc]
                    refine .slice _ _ _ _ _ _ _ _ _ hm (by omega) ?_
                    obtain ⟨_, _, _, _, _, hz, _⟩ := hh.cells hm (by rw [← bget_eq]; exact hb)
                    rcases hl with hl | hl
                    · exact .inl hl
                    · rcases hz with hz | hz
                      · exact .inl hz
                      · right
                        have : (c' - l) * esz + l * j.size = c' * esz := by rw [hz, ← Nat.add_mul]; congr 1; omega
                        omega
                | sliceZero _ _ a =>
                  have hl0 : l = 0 := by omega
                  have hh0 : h' = 0 := by omega
                  subst hl0; subst hh0
                  refine ⟨_, _, h3, go hxu (fun w => run_bounds (w := w) (b := true) h2 h4 hlh (by omega)), ?_⟩
                  simpa using VRel.sliceZero _ _ _
                | sliceDead _ _ _ _ _ a hd _ => exact (nc hh hb hd).elim
              · exact h.elim
            · rename_i mo
              obtain ⟨mm, h1, h2⟩ := hiK_spec (aR := aR) hs h
              obtain ⟨h', h3, h4⟩ := hiK_spec (aR := aR) hs h1
              obtain ⟨l, ⟨rfl, rfl, hmc, hsome, h5⟩, h6⟩ := hiK_spec (aR := aR) hs h3
              rcases h2 with ⟨h2, _⟩ | ⟨y, k, h2, h7⟩
              · cases h2
              · cases h2
                rcases h4 with ⟨h4, _⟩ | ⟨y', k', h4, h8⟩
                · rw [h4] at hsome; cases hsome
                · have key : ∃ a cR, u = .slice a n cR ∧ l ≤ cR := by
                    cases hx with
                    | slice _ _ r sh tot esz _ _ c' hm hc hl => exact ⟨_, _, rfl, by omega⟩
                    | sliceZero _ _ a => exact ⟨_, _, rfl, by omega⟩
                    | sliceDead _ _ _ _ c' a hd hc => exact ⟨_, _, rfl, by omega⟩
                  obtain ⟨a, cR, rfl, hlc⟩ := key
                  refine ⟨_, _, h5, go hxu (fun w => run_bounds3 (w := w) (b := true) h7 ⟨y', k', h4, h8⟩ h6 (Nat.le_refl _) (Nat.le_refl _) hlc), ?_⟩
                  simp only [if_true, Nat.sub_self]
                  exact .sliceEmpty _ _ _ _
          · exact h.elim
        · exact h.elim
      · rename_i hk
        have hu := hti.und
        rw [hk] at hu
        simp only [KOk] at hu
        split at h
        · rename_i s hv
          have hx := ev_rel hs hv
          generalize hxu : aR.eval x = u at hx
          cases hx
          obtain ⟨h', h1, h2⟩ := hiK_spec (aR := aR) hs h
          obtain ⟨l, ⟨⟨hlh, hhc⟩, h3⟩, h4⟩ := hiK_spec (aR := aR) hs h1
          refine ⟨_, _, h3, fun w' _ => ?_, .string _⟩
          simp only [execOp, hop, hxu]
          refine run_value ?_
          have hb := run_bounds (P := P) (w := w') (b := false) h2 h4 hlh hhc
          simp only [Instr.sliceAt, Instr.slice, Sem.run_bind, run_und hu, Result.andThen_ok, Option.map_none, Option.isSome_none, Bool.false_eq_true, if_false, Sem.run_pure, hb]
        · exact h.elim
      · exact h.elim
    · exact h.elim

theorem s_fieldAddr (hT : TOk P T) {s : TypeId} {x : Operand} {f : Nat} (hop : o.op = .fieldAddr s x f) (h : astep P T (.fieldAddr s x f) sl H K) : OpV P o sl H K :=
  fun m aR w hs hh => by
    simp only [astep] at h
    split at h
    · rename_i i hi
      have hi := hT.get hi
      split at h
      · rename_i fs hk
        have hu := hi.und
        rw [hk] at hu
        obtain ⟨fields, hu, hfs⟩ := hu
        split at h
        · rename_i off t hf
          split at h
          · rename_i j b o' hj hv
            have hj := hT.get hj
            obtain ⟨hne, h⟩ := h
            split at h
            · rename_i wr z vs hb
              obtain ⟨r, sh, tot, esz, hm, hux, hb'⟩ := ptr_inv hh hb (ev_rel hs hv)
              rw [fieldAt?_eq, ← hfs, List.getElem?_map] at hf
              cases hff : fields[f]? with
              | none => simp [hff] at hf
              | some fd =>
                simp [hff] at hf
                obtain ⟨rfl, rfl⟩ := hf
                refine ⟨_, .pointer (some ⟨r, sh + (o' + fd.offset), none⟩), h, fun w' _ => ?_, .ptr _ _ _ _ _ _ hm⟩
                simp only [execOp, hop, hux]
                refine run_value ?_
                simp [Instr.fieldAt, run_und hu, hff, Instr.sureAddr, fieldPlace, hj.run_size, hne, addr_add, Nat.add_assoc]
            · exact h.elim
          · exact h.elim
        · exact h.elim
      · exact h.elim
    · exact h.elim

/-- A part of an aggregate by value. -/
theorem run_part (hT : TOk P T) {t : TypeId} {j : TI} (hj : tget T t = some j) {cs cs' : Array Value} {off : Nat} {m : LM} (hc : LRel m cs.toList cs'.toList) {K : Value → Prop}
    (h : match j.kind.agg with
      | true => off + j.size ≤ cs.toList.length ∧ listNF ((cs.toList.drop off).take j.size) (fun l => K (.agg ⟨l⟩))
      | false => Ld cs.toList off K) :
    ∃ v vR, K v ∧ (∀ w, (part t cs' off).run P w = .ok vR w) ∧ VRel m v vR := by
  have hj' := hT.get hj
  split at h
  · rename_i ha
    obtain ⟨h1, h2⟩ := h
    simp only [listNF_eq] at h2
    refine ⟨_, .agg (cs'.extract off (off + j.size)), h2, fun w => by simp [part, hj'.run_isAgg, ha, hj'.run_size], .agg' ?_⟩
    have := hc.segOf off j.size
    simpa [List.extract_eq_take_drop] using this
  · rename_i ha
    obtain ⟨v, hv, hk⟩ := h
    obtain ⟨y, g1, g2⟩ := hc.get hv
    have g1' : cs'[off]? = some y := by simpa using g1
    exact ⟨v, y, hk, fun w => by simp [part, hj'.run_isAgg, ha, g1'], g2⟩

theorem s_field (hT : TOk P T) {t : TypeId} {x : Operand} {f : Nat} (hop : o.op = .field t x f) (h : astep P T (.field t x f) sl H K) : OpV P o sl H K :=
  fun m aR w hs hh => by
    simp only [astep] at h
    split at h
    · rename_i i hi
      have hi := hT.get hi
      split at h
      · rename_i fs hk
        have hu := hi.und
        rw [hk] at hu
        obtain ⟨fields, hu, hfs⟩ := hu
        split at h
        · rename_i off ft hf
          split at h
          · rename_i j cs hj hv
            have hx := ev_rel hs hv
            obtain ⟨cs', hxe, hc⟩ := hx.inv_agg
            rw [fieldAt?_eq, ← hfs, List.getElem?_map] at hf
            cases hff : fields[f]? with
            | none => simp [hff] at hf
            | some fd =>
              simp [hff] at hf
              obtain ⟨rfl, rfl⟩ := hf
              obtain ⟨v, vR, h1, h2, h3⟩ := run_part hT hj hc (K := fun v => K v H) h
              refine ⟨v, vR, h1, fun w' _ => ?_, h3⟩
              simp only [execOp, hop, hxe]
              exact run_value (by simp [Instr.field, run_und hu, hff, asAgg, h2])
          · exact h.elim
        · exact h.elim
      · exact h.elim
    · exact h.elim

theorem s_indexAddr (hT : TOk P T) {t : TypeId} {x i : Operand} (hop : o.op = .indexAddr t x i) (h : astep P T (.indexAddr t x i) sl H K) : OpV P o sl H K :=
  fun m aR w hs hh => by
    simp only [astep] at h
    split at h
    · rename_i ti hti
      have hti := hT.get hti
      split at h
      · rename_i k n hn
        have en := ev_rel hs hn
        generalize hun : aR.eval i = un at en
        cases en
        split at h
        · rename_i e hk
          have hu := hti.und
          rw [hk] at hu
          simp only [KOk] at hu
          split at h
          · rename_i j b o' l c hj hv
            have hj := hT.get hj
            split at h
            · rename_i wr z vs hb
              obtain ⟨q, rfl, hq, h⟩ := h
              have hx := ev_rel hs hv
              generalize hux : aR.eval x = ux at hx
              cases hx with
              | slice _ _ r sh tot esz _ _ c' hm hc hl =>
                refine ⟨_, .pointer (some ⟨r, sh + (o' + q * j.size), none⟩), h, fun w' _ => ?_, .ptr _ _ _ _ _ _ hm⟩
                simp only [execOp, hop, hun, hux]
                refine run_value ?_
                have hq' : (0 : Int) ≤ (q : Int) ∧ (q : Int) < (l : Int) := by omega
                simp only [Instr.indexAt, asIntOf, Sem.run_bind, Sem.run_pure, Result.andThen_ok, run_und hu]
                rw [if_pos hq']
                simp [hj.run_size, addr_add, Nat.add_assoc]
              | sliceZero _ _ a => omega
              | sliceDead _ _ _ _ _ a hd _ => exact (nc hh hb hd).elim
            · exact h.elim
          · exact h.elim
        · rename_i len e hk
          have hu := hti.und
          rw [hk] at hu
          simp only [KOk] at hu
          split at h
          · rename_i j b o' hj hv
            have hj := hT.get hj
            split at h
            · rename_i wr z vs hb
              obtain ⟨q, rfl, hq, h⟩ := h
              obtain ⟨r, sh, tot, esz, hm, hux, hb'⟩ := ptr_inv hh hb (ev_rel hs hv)
              refine ⟨_, .pointer (some ⟨r, sh + (o' + q * j.size), none⟩), h, fun w' _ => ?_, .ptr _ _ _ _ _ _ hm⟩
              simp only [execOp, hop, hun, hux]
              refine run_value ?_
              have hq' : (0 : Int) ≤ (q : Int) ∧ (q : Int) < (len : Int) := by omega
              simp only [Instr.indexAt, asIntOf, Sem.run_bind, Sem.run_pure, Result.andThen_ok, run_und hu, Instr.sureAddr]
              rw [if_pos hq']
              simp [hj.run_size, addr_add, Nat.add_assoc]
            · exact h.elim
          · exact h.elim
        · exact h.elim
      · exact h.elim
    · exact h.elim

theorem s_index (hT : TOk P T) {t : TypeId} {x i : Operand} (hop : o.op = .index t x i) (h : astep P T (.index t x i) sl H K) : OpV P o sl H K :=
  fun m aR w hs hh => by
    simp only [astep] at h
    split at h
    · rename_i ti hti
      have hti := hT.get hti
      split at h
      · rename_i k n s hn hv
        have en := ev_rel hs hn
        generalize hun : aR.eval i = un at en
        cases en
        have hx := ev_rel hs hv
        generalize hux : aR.eval x = ux at hx
        cases hx
        split at h
        · rename_i hk
          have hu := hti.und
          rw [hk] at hu
          simp only [KOk] at hu
          obtain ⟨q, b, rfl, hb, h⟩ := h
          refine ⟨_, _, h, fun w' _ => ?_, .int _ _⟩
          simp only [execOp, hop, hun, hux]
          refine run_value ?_
          simp [Instr.index, asIntOf, run_und hu, hb]
        · exact h.elim
      · rename_i k n cs hn hv
        have en := ev_rel hs hn
        generalize hun : aR.eval i = un at en
        cases en
        have hx := ev_rel hs hv
        obtain ⟨cs', hxe, hc⟩ := hx.inv_agg
        split at h
        · rename_i len e hk
          have hu := hti.und
          rw [hk] at hu
          simp only [KOk] at hu
          split at h
          · rename_i j hj
            obtain ⟨q, ⟨rfl, hq⟩, h⟩ := h
            obtain ⟨v, vR, h1, h2, h3⟩ := run_part hT hj hc (K := fun v => K v H) h
            refine ⟨v, vR, h1, fun w' _ => ?_, h3⟩
            simp only [execOp, hop, hun, hxe]
            refine run_value ?_
            have hq' : (0 : Int) ≤ (q : Int) ∧ (q : Int) < (len : Int) := by omega
            simp only [Instr.index, asIntOf, Sem.run_bind, Sem.run_pure, Result.andThen_ok, run_und hu]
            rw [if_pos hq']
            simp [(hT.get hj).run_size, h2]
          · exact h.elim
        · exact h.elim
      · exact h.elim
    · exact h.elim

theorem s_typeAssert (hT : TOk P T) {x : Operand} {xt a : TypeId} {ok : Bool} (hop : o.op = .typeAssert x xt a ok) (h : astep P T (.typeAssert x xt a ok) sl H K) : OpV P o sl H K :=
  fun m aR w hs hh => by
    simp only [astep] at h
    split at h
    · rename_i i hi
      have hi' := hT.get hi
      split at h
      · exact h.elim
      · rename_i hne
        split at h
        · rename_i t v hv
          have hx := ev_rel hs hv
          generalize hux : aR.eval x = ux at hx
          cases hx with
          | iface _ _ v' hvv =>
          obtain ⟨d, hd, _⟩ := hi'.und.desc
          have hd' : ∀ ms, d ≠ .interface ms := by
            intro ms e
            subst e
            have ui := hi'.und
            cases hk' : i.kind <;> rw [hk'] at ui <;> simp only [KOk] at ui
            case iface => exact hne hk'
            case struct => obtain ⟨f, g, _⟩ := ui; rw [hd] at g; cases g
            case func => obtain ⟨_, _, _, g⟩ := ui; rw [hd] at g; cases g
            all_goals (rw [hd] at ui; cases ui)
          split at h
          · rename_i hb hok
            have hta : t = a := Nat.eq_of_beq_eq_true hok
            subst hta
            refine ⟨_, .tuple #[v', .bool true], h, fun w' _ => ?_, .tuple' (.cons hvv (.cons (.bool _) (.nil m)))⟩
            simp only [execOp, hop, hux]
            refine run_value ?_
            simp only [Instr.typeAssert, Sem.run_bind, run_und hd, Result.andThen_ok]
            cases d <;> first | exact absurd rfl (hd' _) | simp
          · rename_i hb hok
            have hta : t = a := Nat.eq_of_beq_eq_true hok
            subst hta
            refine ⟨_, v', h, fun w' _ => ?_, hvv⟩
            simp only [execOp, hop, hux]
            refine run_value ?_
            simp only [Instr.typeAssert, Sem.run_bind, run_und hd, Result.andThen_ok]
            cases d <;> first | exact absurd rfl (hd' _) | simp
          · rename_i hb hok
            have hta : ¬ t = a := fun e => by rw [e] at hok; simp at hok
            refine ⟨_, .tuple #[i.zero, .bool false], h, fun w' _ => ?_, .tuple' (.cons (zero_self hi' m) (.cons (.bool _) (.nil m)))⟩
            simp only [execOp, hop, hux]
            refine run_value ?_
            simp only [Instr.typeAssert, Sem.run_bind, run_und hd, Result.andThen_ok]
            cases d <;> first | exact absurd rfl (hd' _) | simp [hta, hi'.run_zero]
          · exact h.elim
        · exact h.elim
    · exact h.elim

theorem s_extract {t : Operand} {ix : Nat} (hop : o.op = .extract t ix) (h : astep P T (.extract t ix) sl H K) : OpV P o sl H K :=
  fun m aR w hs hh => by
    simp only [astep] at h
    split at h
    · rename_i vs hv
      obtain ⟨v, h1, h2⟩ := h
      have hx := ev_rel hs hv
      obtain ⟨vs', hxe, hc⟩ := hx.inv_tuple
      obtain ⟨y, g1, g2⟩ := hc.get h1
      refine ⟨v, y, h2, fun w' _ => ?_, g2⟩
      simp only [execOp, hop, hxe]
      have g1' : vs'[ix]? = some y := by simpa using g1
      exact run_value (by simp [Instr.extract, g1'])
    · exact h.elim

end
end Go.Af
