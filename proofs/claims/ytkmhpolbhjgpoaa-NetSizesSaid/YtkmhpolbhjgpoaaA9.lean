/-
  'astep' is sound, part 3: append put together.
-/
import Derived.Test.YtkmhpolbhjgpoaaA8
import Derived.Laws.Append
namespace Go.Af
open Go

section
variable {P : Program} {H : List Blk} {m : LM} {w : World}

theorem LRel.getArr {xs : List Value} {ys : Array Value} (h : LRel m xs ys.toList) {i : Nat} {v : Value} (hv : xs[i]? = some v) : ∃ v', ys[i]? = some v' ∧ VRel m v v' := by
  obtain ⟨y, h1, h2⟩ := h.get hv
  exact ⟨y, by simpa using h1, h2⟩

theorem run_choose_cap (need c e : Nat) (w : World) : (choose (.appendCap need c e)).run P w = .ok (need + w.tape w.drawn (.appendCap need c e) % (2 ^ 63 - need)) { w with drawn := w.drawn + 1 } := by
  simp [run_choose, Question.forced, Question.cut]

theorem zeroCells_size (z : Array Value) (n : Nat) : (Builtin.zeroCells z n).size = n * z.size := by simp [Builtin.zeroCells]

theorem app_room {ts tx ty e : TypeId} {i : TypeInfo} {dx : TypeDesc} {n l c : Nat} {base : Option Addr} {xR : Value} {newR : Array Value} {w' : World} (hts : P.underlying ts = some (.slice e)) (htx : P.underlying tx = some dx) (hnx : dx = .string ∨ ∃ e', dx = .slice e')
    (hi : P.info? e = some i) (x1 : (Builtin.lenOf xR).run P w = .ok n w) (x2 : (Builtin.firstCells i.size n xR).run P w = .ok newR w) (hc : l + n ≤ c)
    (hst : match base with | some a => (storeCells (a.add (l * i.size)) newR.toList).run P w = .ok () w' | none => w' = w) :
    (Builtin.append_ #[ts, tx] ty #[.slice base l c, xR]).run P w = .ok (.slice base (l + n) c) w' := by
  cases base with
  | none =>
    subst hst
    rcases hnx with rfl | ⟨e', rfl⟩ <;> simp [Builtin.append_, run_und hts, run_und htx, sizeOf, typeInfo, hi, x1, x2, hc]
  | some a =>
    simp only at hst
    rcases hnx with rfl | ⟨e', rfl⟩ <;> simp [Builtin.append_, run_und hts, run_und htx, sizeOf, typeInfo, hi, x1, x2, hc, hst]

theorem app_grow {ts tx ty e : TypeId} {i : TypeInfo} {z : Value} {dx : TypeDesc} {n l c : Nat} {base : Option Addr} {xR : Value} {newR oldR : Array Value} (hts : P.underlying ts = some (.slice e)) (htx : P.underlying tx = some dx) (hnx : dx = .string ∨ ∃ e', dx = .slice e')
    (hi : P.info? e = some i) (hz : i.zero = some z) (x1 : (Builtin.lenOf xR).run P w = .ok n w) (x2 : ∀ d, (Builtin.firstCells i.size n xR).run P { w with drawn := d } = .ok newR { w with drawn := d })
    (hc : ¬ l + n ≤ c) (h48 : Builtin.nextslicecap (l + n) c * i.bytes ≤ 2 ^ 48) (h63 : ((l + n : Nat) : Int) ≤ IntKind.i64.max)
    (hold : ∀ d, (Builtin.firstCells i.size l (.slice base l c)).run P { w with drawn := d } = .ok oldR { w with drawn := d }) :
    ∃ k, (Builtin.append_ #[ts, tx] ty #[.slice base l c, xR]).run P w = .ok (.slice (some ⟨w.heap.size, 0, none⟩) (l + n) (l + n + k)) { w with heap := w.heap.push (.cells (oldR ++ newR ++ Builtin.zeroCells z.cells k) e), drawn := w.drawn + 1 } := by
  have h48' : ¬ (2 ^ 48 < Builtin.nextslicecap (l + n) c * i.bytes) := by omega
  have h63' : ¬ (((l + n : Nat) : Int) > IntKind.i64.max) := by omega
  have h63'' : ¬ (IntKind.i64.max < (l : Int) + (n : Int)) := by have : ((l + n : Nat) : Int) = (l : Int) + n := by simp
                                                                 omega
  refine ⟨w.tape w.drawn (.appendCap (l + n) c e) % (2 ^ 63 - (l + n)), ?_⟩
  have hx2 := x2 (w.drawn + 1)
  have ho := hold (w.drawn + 1)
  rcases hnx with rfl | ⟨e', rfl⟩ <;> simp only [Builtin.append_, List.getElem?_toArray, List.getElem?_cons_zero, List.getElem?_cons_succ, Sem.run_bind, run_und hts, run_und htx, Result.andThen_ok, sizeOf, typeInfo, run_program, hi, Sem.run_pure, x1, Bool.false_eq_true, if_false, hc, Sem.run_ite, h63', false_and, h48', gt_iff_lt,
    run_choose_cap, run_askRoom, ho, Bool.not_false, if_true, hx2, zeroValue, hz, newRow, run_newObj] <;> simp

theorem append_run {ts tx ty e : TypeId} {j : TI} {dx : TypeDesc} {s x sR xR : Value} {K : Value → List Blk → Prop} (hts : P.underlying ts = some (.slice e)) (htx : P.underlying tx = some dx) (hnx : dx = .string ∨ ∃ e', dx = .slice e') (hj : TIOk P e j)
    (hzl : (cellsL j.zero).length = j.size) (hH : HRel m H w) (hs : VRel m s sR) (hx : VRel m x xR) (h : aAppend H j.size j.bytes s x K) :
    ∃ vR w', (Builtin.append_ #[ts, tx] ty #[sR, xR]).run P w = .ok vR w' ∧ AppOut m H w K vR w' := by
  obtain ⟨hpos, h00⟩ := h
  obtain ⟨n, new, newR, ⟨hone, h⟩, x1, x3, x4, hnl⟩ := appSrc_run (P := P) hH hx h00
  clear h00
  obtain ⟨ji, hji, hsz, hby, hze⟩ := hj.infoEx
  rw [← hsz] at x3
  have x2 : (Builtin.firstCells ji.size n xR).run P w = .ok newR w := x3 w.drawn
  have hi64 : IntKind.i64.max = 9223372036854775807 := by decide
  have hzc : j.zero.cells.size = j.size := by rw [← hzl, cellsL_eq]; simp
  have hnR : newR.size = n * j.size := by have := x4.1; simp at this; omega
  -- a new row, grown behind 'old'
  have grown : ∀ (base : Option Addr) (l c : Nat) (old : List Value) (oldR : Array Value) (m' : LM) (H' : List Blk), HRel m' H' w → LRel m' old oldR.toList → old.length = l * j.size → LRel m' new newR.toList →
      (∀ d, (Builtin.firstCells ji.size l (.slice base l c)).run P { w with drawn := d } = .ok oldR { w with drawn := d }) →
      0 < n → c < l + n → (l + n) * (j.bytes + 1) ≤ 70368744177664 → newSlice H' j.size (old ++ new) (l + n) K →
      ∃ vR w', (Builtin.append_ #[ts, tx] ty #[.slice base l c, xR]).run P w = .ok vR w' ∧ AppOut m' H' w K vR w' := by
    intro base l c old oldR m' H' hH' ho hol hn' hold hn hcl hb hk
    have hb1 : (l + n) * j.bytes ≤ 70368744177664 := Nat.le_trans (Nat.mul_le_mul_left _ (Nat.le_succ _)) hb
    have hb2 : l + n ≤ 70368744177664 := by rw [Nat.mul_succ] at hb; omega
    have hcap : Builtin.nextslicecap (l + n) c * ji.bytes ≤ 2 ^ 48 := by
      rw [hby]
      refine Nat.le_trans (Nat.mul_le_mul_right _ (Go.nextslicecap_le hcl)) ?_
      rw [Nat.mul_assoc]; omega
    obtain ⟨k, hr⟩ := app_grow (P := P) (w := w) (ty := ty) (l := l) (c := c) (base := base) (oldR := oldR) hts htx hnx hji hze x1 x3 (by omega) hcap (by rw [hi64]; omega) hold
    refine ⟨_, _, hr, ?_⟩
    have hz := zeroCells_size j.zero.cells k
    have hoR : oldR.size = l * j.size := by have := ho.1; simp at this; omega
    have app : LRel m' (old ++ new) (oldR ++ newR).toList := by rw [Array.toList_append]; exact ho.append hn'
    exact new_row (e := e) (d := w.drawn + 1) (nR := l + n + k) hH' hpos (by omega) (cellsR := oldR ++ newR ++ Builtin.zeroCells j.zero.cells k) (by simp [hnR, hoR, hz, hzc, Nat.add_mul, Nat.add_assoc]) (cells := old ++ new) (K := K) (n := l + n)
      (fun i v hv => by
        obtain ⟨v', g1, g2⟩ := app.getArr hv
        exact ⟨v', by rw [Array.getElem?_append_left (Array.getElem?_eq_some_iff.1 g1).1]; exact g1, g2⟩) hk
  have nil0 : ∀ (base : Option Addr) (c d : Nat), (Builtin.firstCells ji.size 0 (.slice base 0 c)).run P { w with drawn := d } = .ok #[] { w with drawn := d } := fun base c d => by
    cases base <;> simp [Builtin.firstCells, loadCells, loadCellsFrom]
  have room0 : ∀ (base : Option Addr) (l c : Nat), n = 0 → l ≤ c → (Builtin.append_ #[ts, tx] ty #[.slice base l c, xR]).run P w = .ok (.slice base (l + n) c) w := by
    intro base l c h0 hlc
    have e0 : newR.toList = [] := by rw [h0, Nat.zero_mul] at hnR; simpa using hnR
    refine app_room hts htx hnx hji x1 x2 (by omega) ?_
    cases base with
    | none => rfl
    | some a => simp only; rw [e0]; simp [storeCells]
  split at h
  · cases hs
    rcases h with ⟨h0, hk⟩ | ⟨hn, hb, hk⟩
    · have := room0 none 0 0 h0 (Nat.le_refl _)
      rw [h0] at this
      exact ⟨_, _, this, _, _, m, hk, .nilslice, hH, .refl _ _ _ _⟩
    · exact grown none 0 0 [] #[] m H hH (.nil m) (by simp) x4 (nil0 _ _) hn (by omega) (by simpa using hb) (by simpa using hk)
  · cases hs
    rename_i b' o' s' a
    rcases h with ⟨h0, hk⟩ | ⟨hn, hb, hk⟩
    · have := room0 a 0 0 h0 (Nat.le_refl _)
      rw [h0] at this
      exact ⟨_, _, this, _, _, m, hk, .sliceEmpty _ _ _ _, hH, .refl _ _ _ _⟩
    · exact grown a 0 0 [] #[] m H hH (.nil m) (by simp) x4 (nil0 _ _) hn (by omega) (by simpa using hb) (by simpa using hk)
  · rename_i b o l c
    rcases h with ⟨h0, hlc, hk⟩ | ⟨hn, h⟩
    · have key : ∃ base cR, sR = .slice base l cR ∧ l ≤ cR := by
        cases hs with
        | slice _ _ r sh tot esz _ _ c' hm hc hl => exact ⟨_, _, rfl, by omega⟩
        | sliceZero _ _ a => exact ⟨_, _, rfl, by omega⟩
        | sliceDead _ _ _ _ c' a hd hc => exact ⟨_, _, rfl, by omega⟩
      obtain ⟨base, cR, rfl, hlR⟩ := key
      have := room0 base l cR h0 hlR
      rw [h0] at this
      exact ⟨_, _, this, _, _, m, hk, hs, hH, .refl _ _ _ _⟩
    · split at h
      · rename_i z vs hb
        rw [bget_eq] at hb
        obtain ⟨rfl, h⟩ := h
        rcases h with ⟨hlc, hl0, hbd, vs', hvs', hk⟩ | ⟨hcl, hbnd, hbd, cells, hcells, hk⟩
        · -- in place, by right
          simp only [bsetK_eq] at hk
          cases hs with
          | slice _ _ r sh tot esz _ _ c' hm hc hl =>
            obtain ⟨w', g1, g2, g3⟩ := run_storeCells (P := P) new newR.toList hH hm hb (o + l * j.size) 0 (by rw [hnl]; rw [Nat.add_mul] at hbd; omega) x4 hone
            rw [Nat.add_zero, hvs'] at g2 g3
            refine ⟨_, w', app_room (base := some ⟨r, sh + o, none⟩) (l := l) (c := c') hts htx hnx hji x1 x2 (by omega) ?_, _, _, m, hk, .slice _ _ _ _ _ _ _ _ _ hm hc hl, g2, g3⟩
            simp only [addr_add, hsz]
            rw [Nat.add_assoc]; exact g1
          | sliceZero _ _ a => omega
          | sliceDead _ _ _ _ _ a hd _ => have := hH.dd _ hd; rw [this] at hb; cases hb
        · -- the old block dies
          cases hs with
          | slice _ _ r sh tot esz _ _ c' hm hc hl =>
            obtain ⟨k1, k2, k3⟩ := hH.kill hm hb
            obtain ⟨c0, e0, f0, q1, q2, q3, q4⟩ := hH.cells hm hb
            obtain ⟨q5, q6, q7, q8⟩ := q4 rfl
            by_cases hfit : l + n ≤ c'
            · -- there was room
              have hl' : sh + o + c' * esz ≤ tot := by rcases hl with hl | hl <;> omega
              have hmul : (l + n) * j.size ≤ c' * j.size := Nat.mul_le_mul_right _ hfit
              rw [Nat.add_mul] at hmul
              rw [q6] at hl'
              have hnl' : newR.toList.length = n * j.size := by simpa using hnR
              obtain ⟨w', cc, g1, g2, g3, g4, g5, g6⟩ := run_storeRaw (P := P) newR.toList (o := sh + o + l * j.size) (i := 0) q1 q5 (by rw [hnl']; omega) (all_rel_one x4 hone)
              rw [Nat.add_zero] at g3
              have hcc : cc.size = c0.size := by have := congrArg List.length g3; rw [setSeg_length] at this; simpa using this
              refine ⟨_, w', app_room (base := some ⟨r, sh + o, none⟩) (l := l) (c := c') hts htx hnx hji x1 x2 hfit ?_, ?_⟩
              · simp only [addr_add, hsz]; exact g1
              · refine in_place (cells := cells) hH hm hb q1 g2 g4 g5 g6 hcc hfit (by rw [q6]; exact hl') (fun i v hv => ?_) hk
                rw [← hcells, List.getElem?_append] at hv
                have hol : ((vs.drop o).take (l * j.size)).length = l * j.size := by
                  simp
                  rcases hbd with hbd | hbd
                  · subst hbd; simp
                  · omega
                have hgl : cc[sh + o + i]? = (setSeg c0.toList (sh + o + l * j.size) newR.toList)[sh + o + i]? := by rw [← g3]; simp
                rw [hgl, setSeg_get _ _ _ _ (by rw [hnl']; simp; omega)]
                split at hv
                · rename_i hlt
                  rw [hol] at hlt
                  rw [List.getElem?_take, if_pos hlt, List.getElem?_drop] at hv
                  obtain ⟨v', p1, p2⟩ := q2 _ _ hv
                  rw [if_neg (by omega)]
                  exact ⟨v', by rw [Nat.add_assoc]; simpa using p1, p2⟩
                · rename_i hge
                  rw [hol] at hv hge
                  have hlt : i - l * j.size < new.length := (List.getElem?_eq_some_iff.1 hv).1
                  rw [if_pos (by rw [hnl']; omega)]
                  obtain ⟨v', p1, p2⟩ := x4.get hv
                  exact ⟨v', by rw [show sh + o + i - (sh + o + l * j.size) = i - l * j.size by omega]; exact p1, p2⟩
            · -- there was none
              have hold : ∃ oldR : Array Value, LRel m ((vs.drop o).take (l * j.size)) oldR.toList ∧ (∀ d, (Builtin.firstCells ji.size l (.slice (some ⟨r, sh + o, none⟩) l c')).run P { w with drawn := d } = .ok oldR { w with drawn := d }) ∧ ((vs.drop o).take (l * j.size)).length = l * j.size := by
                rcases hbd with hbd | hbd
                · subst hbd; exact ⟨#[], by simp; exact .nil m, nil0 _ _, by simp⟩
                · obtain ⟨xs, g1, g2⟩ := run_loadCells (P := P) hH hm hb o (l * j.size) hbd
                  exact ⟨xs, g2, fun d => by rw [hsz]; simpa [Builtin.firstCells] using g1 d, by simp; omega⟩
              obtain ⟨oldR, o1, o2, o3⟩ := hold
              simp only [bsetK_eq] at hk
              rw [← hcells] at hk
              obtain ⟨vR, w', r1, v, H', m', r2, r3, r4, r5⟩ := grown (some ⟨r, sh + o, none⟩) l c' _ oldR _ _ k1 (o1.mono k3) o3 (x4.mono k3) o2 hn (by omega) hbnd hk
              exact ⟨vR, w', r1, v, H', m', r2, r3, r4, k2.trans (by simpa using r5)⟩
          | sliceZero _ _ a =>
            -- no block stands behind it
            simp only [bsetK_eq] at hk
            rw [← hcells] at hk
            have hk' : ∃ m', HRel m' (H.set b .dead) w ∧ Fr H.length m H w m' (H.set b .dead) w ∧ m.le m' := by
              cases hmb : m b with
              | none =>
                have hne : ∀ i l, m i = some l → b ≠ i := fun i l hi e => by subst e; rw [hmb] at hi; cases hi
                refine ⟨m, ⟨fun i l hi => by simpa using hH.dom i l hi, fun i l b' hi hd hb' => ?_, fun i hi => ?_, fun i j r' b' hi hb' hw hj => ?_⟩, ⟨Nat.le_refl _, fun _ => by simp, fun _ _ _ h => .inl h, fun _ _ h => h, fun i _ b' hb' hr' => ?_, fun r' hr' hw => ⟨rfl, fun ⟨i, b', k1, k2, k3⟩ => ?_⟩, .refl _⟩, .refl m⟩
                · rw [List.getElem?_set] at hb'; simp [hne i l hi] at hb'; exact hH.blk i l b' hi hd hb'
                · rw [List.getElem?_set]; simp [hne i _ hi]; exact hH.dd i hi
                · obtain ⟨l', h1, _⟩ := locBlk_some hi
                  rw [List.getElem?_set] at hb'; simp [hne i _ h1] at hb'; exact hH.own i j r' b' hi hb' hw hj
                · rw [List.getElem?_set] at hb'
                  by_cases e : b = i
                  · subst e; exact ⟨_, hb, rfl⟩
                  · simp [e] at hb'; exact ⟨b', hb', hr'⟩
                · obtain ⟨l', h1, _⟩ := locBlk_some k1
                  rw [List.getElem?_set] at k2; simp [hne i _ h1] at k2; exact hw ⟨i, b', k1, k2, k3⟩
              | some l =>
                have hd : l ≠ .dead := fun e => by subst e; have := hH.dd _ hmb; rw [this] at hb; cases hb
                have hB := hH.blk b l _ hmb hd hb
                cases l with
                | cel r sh tot esz =>
                  obtain ⟨k1, k2, k3⟩ := hH.kill hmb hb
                  exact ⟨_, k1, k2, k3⟩
                | obj r => exact hB.elim
                | dead => exact absurd rfl hd
            obtain ⟨m1, k1, k2, k3⟩ := hk'
            obtain ⟨vR, w', r1, v, H', m', r2, r3, r4, r5⟩ := grown a 0 0 _ #[] _ _ k1 (by simp; exact .nil m1) (by simp) (x4.mono k3) (nil0 _ _) hn (by omega) hbnd hk
            exact ⟨vR, w', r1, v, H', m', r2, r3, r4, k2.trans (by simpa using r5)⟩
          | sliceDead _ _ _ _ _ a hd _ => have := hH.dd _ hd; rw [this] at hb; cases hb
      · exact h.elim
  · exact h.elim

end
end Go.Af
